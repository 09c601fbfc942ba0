/-
  The contracts of the law's sign and example of chapter 24.
-/
import Derived.Test.YtdhlmhkabckbaaaGreatDoorMarkL
import Derived.Test.YtdhlmhkabckbaaaGreatDoorMarkB
import Derived.Test.YtdhlmhkabckbaaaGreatDoorMarkC
import Derived.Test.YtdhlmhkabckbaaaGreatDoorKrip
namespace Go.Proofs.YtdhlmhkabckbaaaGreatDoor
open Go.RowKit
attribute [local go_sem ↓] Go.wp_at_zero Go.wp_at_succ

set_option maxHeartbeats 1000000 in
theorem law24_sign (c : UInt8) (w : World) :
    Calls Tryz.prog 31 #[.int .u8 c.toNat] w fun e w' => e = .returned (.string (letterRoot c)) ∧ Below w.heap.size w w' := by
  have hmk := make32
  go_enter Tryz.func31, Tryz.ntmps31
  go_wp2_with fail
  go_loopw [4] (fun i wr => ∃ k : Nat, k ≤ 32 ∧ i = .int .i64 k ∧ Owns 1 byteCell 5 wr w.heap.size (.slice (some ⟨w.heap.size, 0, none⟩) 32 32) (letters k c) ∧ Below w.heap.size w wr) (fun i _ => 32 - (intOf i).toNat)
  case atStart =>
    refine ⟨0, by omega, rfl, ?_, (by repeat (first | exact Below.refl _ _ | assumption | refine Below.drew ?_ | refine below_drewN ?_ _ | refine Below.alloc ?_ (by first | omega | (simp; try omega)) _ | refine Below.setCell ?_ (by first | omega | (simp; try omega)) _ | (refine Below.trans ?_ (Below.mono (by assumption) (by first | omega | (simp; try omega))))))⟩
    exact ⟨rfl, .inr ⟨w.heap.size, 32, zcells, rfl, Nat.le_refl _, heap_alloc_new w _, Nat.le_refl _, by simp [maxLen], rfl, rfl⟩⟩
  case round =>
    obtain ⟨k, hk, rfl, ho, hbw⟩ := hrel
    by_cases hlt : k < 32
    · have ho' := ho
      unfold Owns at ho'
      rw [letters_len hk] at ho'
      have hc := ho'.cellAt k (by omega)
      obtain ⟨x, hx⟩ := getElem_some (l := (letters k c).flatMap byteCell) (i := k) (by rw [flat_len byteCell_len, letters_len hk]; omega)
      rw [hx] at hc
      have hf := ho'.frozenAt k
      have hst := ho'.stored k (.int .u8 c.toNat)
      rw [flat_set, letters_set hlt] at hst
      replace hst := Lib.hid hst
      replace ho := Lib.hid ho
      replace ho' := Lib.hid ho'
      clear hx
      go_wp2
      go_roundw
      case rel => exact ⟨k + 1, by omega, by go_num, by unfold Owns; rw [letters_len (by omega)]; exact hst.out.1, (by repeat (first | exact Below.refl _ _ | assumption | refine Below.drew ?_ | refine below_drewN ?_ _ | refine Below.alloc ?_ (by first | omega | (simp; try omega)) _ | refine Below.setCell ?_ (by first | omega | (simp; try omega)) _ | (refine Below.trans ?_ (Below.mono (by assumption) (by first | omega | (simp; try omega))))))⟩
      case measure => simp [intOf]; omega
    · obtain rfl : k = 32 := by omega
      have hcv := run_bytes_str (c := 32) (ho.row byteCell_len)
      rw [show str (letters 32 c) = letterRoot c by simp [letters, letterRoot]] at hcv
      replace ho := Lib.hid ho
      go_wp2
      go_ret
      exact ⟨rfl, (by repeat (first | exact Below.refl _ _ | assumption | refine Below.drew ?_ | refine below_drewN ?_ _ | refine Below.alloc ?_ (by first | omega | (simp; try omega)) _ | refine Below.setCell ?_ (by first | omega | (simp; try omega)) _ | (refine Below.trans ?_ (Below.mono (by assumption) (by first | omega | (simp; try omega))))))⟩

theorem row1 {w : World} {b : Nat} {s : ByteArray} (h : w.heap[b]? = some (.cells #[.string s] 9)) : StrsAt w w.heap.size (some ⟨b, 0, none⟩) 1 [s] := by
  refine ⟨rfl, by omega, fun _ => ⟨b, 0, rfl, (Array.getElem?_eq_some_iff.1 h).1, fun i x hx j v hv => ?_⟩⟩
  rcases i with _ | i
  · simp at hx
    subst hx
    rcases j with _ | j <;> simp [strCell] at hv
    subst hv
    exact cell_of_row w b 0 _ _ _ h
  · simp at hx
theorem row2 {w : World} {b : Nat} {s t : ByteArray} (h : w.heap[b]? = some (.cells #[.string s, .string t] 9)) : StrsAt w w.heap.size (some ⟨b, 0, none⟩) 2 [s, t] := by
  refine ⟨rfl, by omega, fun _ => ⟨b, 0, rfl, (Array.getElem?_eq_some_iff.1 h).1, fun i x hx j v hv => ?_⟩⟩
  rcases i with _ | _ | i <;> simp at hx <;> subst hx <;> rcases j with _ | j <;> simp [strCell] at hv <;> subst hv
  · exact cell_of_row w b 0 _ _ _ h
  · exact cell_of_row w b 1 _ _ _ h
theorem row3 {w : World} {b : Nat} {s t u : ByteArray} (h : w.heap[b]? = some (.cells #[.string s, .string t, .string u] 9)) : StrsAt w w.heap.size (some ⟨b, 0, none⟩) 3 [s, t, u] := by
  refine ⟨rfl, by omega, fun _ => ⟨b, 0, rfl, (Array.getElem?_eq_some_iff.1 h).1, fun i x hx j v hv => ?_⟩⟩
  rcases i with _ | _ | _ | i <;> simp at hx <;> subst hx <;> rcases j with _ | j <;> simp [strCell] at hv <;> subst hv
  · exact cell_of_row w b 0 _ _ _ h
  · exact cell_of_row w b 1 _ _ _ h
  · exact cell_of_row w b 2 _ _ _ h
theorem prow3 {w : World} {b : Nat} {p q r : Place} (h : w.heap[b]? = some (.cells #[.string p.pack, .int .i64 p.at_, .int .i64 p.len, .string q.pack, .int .i64 q.at_, .int .i64 q.len, .string r.pack, .int .i64 r.at_, .int .i64 r.len] 98)) : PlacesAt w w.heap.size (some ⟨b, 0, none⟩) 3 [p, q, r] := by
  refine ⟨rfl, by omega, fun _ => ⟨b, 0, rfl, (Array.getElem?_eq_some_iff.1 h).1, fun i x hx j v hv => ?_⟩⟩
  rcases i with _ | _ | _ | i <;> simp at hx <;> subst hx <;> rcases j with _ | _ | _ | j <;> simp [Place.cells] at hv <;> subst hv
  · exact cell_of_row w b 0 _ _ _ h
  · exact cell_of_row w b 1 _ _ _ h
  · exact cell_of_row w b 2 _ _ _ h
  · exact cell_of_row w b 3 _ _ _ h
  · exact cell_of_row w b 4 _ _ _ h
  · exact cell_of_row w b 5 _ _ _ h
  · exact cell_of_row w b 6 _ _ _ h
  · exact cell_of_row w b 7 _ _ _ h
  · exact cell_of_row w b 8 _ _ _ h
theorem blkB {w w' : World} {b : Nat} {o : Obj} (h : w.heap[b]? = some o) (hb : Below w.heap.size w w') : w'.heap[b]? = some o := (hb.block b (Array.getElem?_eq_some_iff.1 h).1).trans h

theorem boxZ {w : World} {b : Nat} {v4 v5 v6 : Value} (h : BoxAt w b 0 0 0 v4 v5 v6) (u4 u5 u6 : Value) : BoxAt ((((((w.setCell ⟨b, 0, none⟩ (.int .i64 0)).setCell ⟨b, 1, none⟩ (.int .i64 0)).setCell ⟨b, 2, none⟩ (.int .i64 0)).setCell ⟨b, 3, none⟩ u4).setCell ⟨b, 4, none⟩ u5).setCell ⟨b, 5, none⟩ u6) b 0 0 0 u4 u5 u6 :=
  (heap_setCell (heap_setCell (heap_setCell (heap_setCell (heap_setCell (heap_setCell h _) _) _) _) _) _).trans rfl

set_option maxHeartbeats 400000 in
set_option maxRecDepth 100000 in
theorem law24_example (w : World) :
    Calls Tryz.prog 30 #[] w fun e w' => ∃ A2 c2 A3 c3, e = .returned (Rws.val ⟨none, 0, 0, A2, 3, c2, A3, 3, c3⟩ exS) ∧ StAt w' w'.heap.size ⟨none, 0, 0, A2, 3, c2, A3, 3, c3⟩ exS ∧ Below w.heap.size w w' := by
  go_enter Tryz.func30, Tryz.ntmps30
  go_upto_region 1 with fail
  have hz : (w.alloc (.cells #[.int .i64 0, .int .i64 0, .int .i64 0, .slice none 0 0, .slice none 0 0, .slice none 0 0] 57)).heap.size = w.heap.size + 1 := by simp
  have bz := Lib.hid (BoxAt.new w 0 0 0 (.slice none 0 0) (.slice none 0 0) (.slice none 0 0))
  have f0 : Below w.heap.size w (w.alloc (.cells #[.int .i64 0, .int .i64 0, .int .i64 0, .slice none 0 0, .slice none 0 0, .slice none 0 0] 57)) := (Below.refl _ _).alloc (Nat.le_refl _) _
  generalize w.alloc (.cells #[.int .i64 0, .int .i64 0, .int .i64 0, .slice none 0 0, .slice none 0 0, .slice none 0 0] 57) = w0 at hz bz f0 ⊢
  go_wp2_with fail
  refine (law24_sign 97 w0).mono ?_
  rintro e w1 ⟨rfl, hb1⟩
  go_wp2_with fail
  refine (law24_sign 98 w1).mono ?_
  rintro e w2 ⟨rfl, hb2⟩
  go_wp2_with fail
  refine (law24_sign 99 w2).mono ?_
  rintro e w3 ⟨rfl, hb3⟩
  have h03 : Below w0.heap.size w0 w3 := (hb1.trans (hb2.mono hb1.size)).trans (hb3.mono (Nat.le_trans hb1.size hb2.size))
  go_wp2_with fail
  have hc4 : (w3.alloc (.cells #[.string (letterRoot 97), .string (letterRoot 98), .string (letterRoot 99)] 9)).heap[w3.heap.size]? = some (.cells #[.string (letterRoot 97), .string (letterRoot 98), .string (letterRoot 99)] 9) := heap_alloc_new w3 _
  have h04 := h03.alloc (B := w0.heap.size) (h03.size) (.cells #[.string (letterRoot 97), .string (letterRoot 98), .string (letterRoot 99)] 9)
  have hz4 : (w3.alloc (.cells #[.string (letterRoot 97), .string (letterRoot 98), .string (letterRoot 99)] 9)).heap.size = w3.heap.size + 1 := by simp
  generalize w3.alloc (.cells #[.string (letterRoot 97), .string (letterRoot 98), .string (letterRoot 99)] 9) = w4 at hc4 h04 hz4 ⊢
  refine (law24_sign 112 w4).mono ?_
  rintro e w5 ⟨rfl, hb5⟩
  go_wp2_with fail
  refine (law24_sign 112 w5).mono ?_
  rintro e w6 ⟨rfl, hb6⟩
  go_wp2_with fail
  refine (law24_sign 113 w6).mono ?_
  rintro e w7 ⟨rfl, hb7⟩
  have h47 : Below w4.heap.size w4 w7 := (hb5.trans (hb6.mono hb5.size)).trans (hb7.mono (Nat.le_trans hb5.size hb6.size))
  have h07 := h04.trans (h47.mono h04.size)
  have h7s := h07.size
  have h3s := h03.size
  have h47s := h47.size
  have hc7 := blkB hc4 h47
  replace bz := bz.out.below h07
  obtain ⟨x0, x1, x2, x3, x4, x5⟩ := bz.cells
  have lx := bz.lt
  have e0 := bz.frozen 0
  have e1 := bz.frozen 1
  have e2 := bz.frozen 2
  have e3 := bz.frozen 3
  have e4 := bz.frozen 4
  have e5 := bz.frozen 5
  go_wp2_with fail
  have hne3 : w3.heap.size ≠ w.heap.size := by omega
  have b7 := boxZ bz (.slice none 0 0) (.slice (some ⟨w3.heap.size, 0, none⟩) 3 3) (.slice (some ⟨w7.heap.size, 0, none⟩) 3 3)
  have hc9 : ((((((w7.setCell ⟨w.heap.size, 0, none⟩ (.int .i64 0)).setCell ⟨w.heap.size, 1, none⟩ (.int .i64 0)).setCell ⟨w.heap.size, 2, none⟩ (.int .i64 0)).setCell ⟨w.heap.size, 3, none⟩ (.slice none 0 0)).setCell ⟨w.heap.size, 4, none⟩ (.slice (some ⟨w3.heap.size, 0, none⟩) 3 3)).setCell ⟨w.heap.size, 5, none⟩ (.slice (some ⟨w7.heap.size, 0, none⟩) 3 3)).heap[w3.heap.size]? = some (.cells #[.string (letterRoot 97), .string (letterRoot 98), .string (letterRoot 99)] 9) := (((((((Go.Deep.blk_setCell_other _ _ _ _ hne3).trans (Go.Deep.blk_setCell_other _ _ _ _ hne3)).trans (Go.Deep.blk_setCell_other _ _ _ _ hne3)).trans (Go.Deep.blk_setCell_other _ _ _ _ hne3)).trans (Go.Deep.blk_setCell_other _ _ _ _ hne3)).trans (Go.Deep.blk_setCell_other _ _ _ _ hne3))).trans hc7
  have h07' : Below w.heap.size w w7 := f0.trans (h07.mono (by omega))
  have hF7 : Below w.heap.size w ((((((w7.setCell ⟨w.heap.size, 0, none⟩ (.int .i64 0)).setCell ⟨w.heap.size, 1, none⟩ (.int .i64 0)).setCell ⟨w.heap.size, 2, none⟩ (.int .i64 0)).setCell ⟨w.heap.size, 3, none⟩ (.slice none 0 0)).setCell ⟨w.heap.size, 4, none⟩ (.slice (some ⟨w3.heap.size, 0, none⟩) 3 3)).setCell ⟨w.heap.size, 5, none⟩ (.slice (some ⟨w7.heap.size, 0, none⟩) 3 3)) := (((((h07'.setCell (p := ⟨w.heap.size, 0, none⟩) (Nat.le_refl _) _).setCell (p := ⟨w.heap.size, 1, none⟩) (Nat.le_refl _) _).setCell (p := ⟨w.heap.size, 2, none⟩) (Nat.le_refl _) _).setCell (p := ⟨w.heap.size, 3, none⟩) (Nat.le_refl _) _).setCell (p := ⟨w.heap.size, 4, none⟩) (Nat.le_refl _) _).setCell (p := ⟨w.heap.size, 5, none⟩) (Nat.le_refl _) _
  have hs9 : ((((((w7.setCell ⟨w.heap.size, 0, none⟩ (.int .i64 0)).setCell ⟨w.heap.size, 1, none⟩ (.int .i64 0)).setCell ⟨w.heap.size, 2, none⟩ (.int .i64 0)).setCell ⟨w.heap.size, 3, none⟩ (.slice none 0 0)).setCell ⟨w.heap.size, 4, none⟩ (.slice (some ⟨w3.heap.size, 0, none⟩) 3 3)).setCell ⟨w.heap.size, 5, none⟩ (.slice (some ⟨w7.heap.size, 0, none⟩) 3 3)).heap.size = w7.heap.size := by simp
  generalize ((((((w7.setCell ⟨w.heap.size, 0, none⟩ (.int .i64 0)).setCell ⟨w.heap.size, 1, none⟩ (.int .i64 0)).setCell ⟨w.heap.size, 2, none⟩ (.int .i64 0)).setCell ⟨w.heap.size, 3, none⟩ (.slice none 0 0)).setCell ⟨w.heap.size, 4, none⟩ (.slice (some ⟨w3.heap.size, 0, none⟩) 3 3)).setCell ⟨w.heap.size, 5, none⟩ (.slice (some ⟨w7.heap.size, 0, none⟩) 3 3)) = w9 at b7 hc9 hF7 hs9 ⊢
  have hpF : (w9.alloc (.cells #[.string (letterRoot 112), .int .i64 10, .int .i64 5, .string (letterRoot 112), .int .i64 15, .int .i64 5, .string (letterRoot 113), .int .i64 8, .int .i64 9] 98)).heap[w7.heap.size]? = some (.cells #[.string (letterRoot 112), .int .i64 10, .int .i64 5, .string (letterRoot 112), .int .i64 15, .int .i64 5, .string (letterRoot 113), .int .i64 8, .int .i64 9] 98) := by rw [← hs9]; exact heap_alloc_new w9 _
  have hcF : (w9.alloc (.cells #[.string (letterRoot 112), .int .i64 10, .int .i64 5, .string (letterRoot 112), .int .i64 15, .int .i64 5, .string (letterRoot 113), .int .i64 8, .int .i64 9] 98)).heap[w3.heap.size]? = some (.cells #[.string (letterRoot 97), .string (letterRoot 98), .string (letterRoot 99)] 9) := (Go.Deep.blk_alloc_lt _ _ _ (by omega)).trans hc9
  have hF := hF7.alloc (B := w.heap.size) (by omega) (.cells #[.string (letterRoot 112), .int .i64 10, .int .i64 5, .string (letterRoot 112), .int .i64 15, .int .i64 5, .string (letterRoot 113), .int .i64 8, .int .i64 9] 98)
  have b9 := b7.alloc (.cells #[.string (letterRoot 112), .int .i64 10, .int .i64 5, .string (letterRoot 112), .int .i64 15, .int .i64 5, .string (letterRoot 113), .int .i64 8, .int .i64 9] 98)
  generalize w9.alloc (.cells #[.string (letterRoot 112), .int .i64 10, .int .i64 5, .string (letterRoot 112), .int .i64 15, .int .i64 5, .string (letterRoot 113), .int .i64 8, .int .i64 9] 98) = wF at hcF hpF hF b9 ⊢
  have ok : ∀ p ∈ exS.ps, PlaceOk p := by
    intro p hp
    simp at hp
    rcases hp with rfl | rfl | rfl <;> simp [PlaceOk]
  have rc := row3 hcF
  have rp := prow3 (p := ⟨lp, 10, 5⟩) (q := ⟨lp, 15, 5⟩) (r := ⟨lq, 8, 9⟩) hpF
  have hst : StAt wF wF.heap.size ⟨none, 0, 0, some ⟨w3.heap.size, 0, none⟩, 3, 3, some ⟨w7.heap.size, 0, none⟩, 3, 3⟩ exS := ⟨RowAt.none_, rc, rp, ok⟩
  obtain ⟨k0, k1, k2, k3, k4, k5⟩ := b9.cells
  have hval : (Value.agg #[.int .i64 0, .int .i64 0, .int .i64 0, .slice none 0 0, .slice (some ⟨w3.heap.size, 0, none⟩) 3 3, .slice (some ⟨w7.heap.size, 0, none⟩) 3 3]) = Rws.val ⟨none, 0, 0, some ⟨w3.heap.size, 0, none⟩, 3, 3, some ⟨w7.heap.size, 0, none⟩, 3, 3⟩ exS := by
    unfold Rws.val stv
    rfl
  replace hst := Lib.hid hst
  replace hcF := Lib.hid hcF
  replace hpF := Lib.hid hpF
  clear rc rp ok hc7 hc4 b9 bz b7 hc9
  refine bodyPost_ret (v := .agg #[.int .i64 0, .int .i64 0, .int .i64 0, .slice none 0 0, .slice (some ⟨w3.heap.size, 0, none⟩) 3 3, .slice (some ⟨w7.heap.size, 0, none⟩) 3 3]) ?_ rfl ?_
  · simp [results, Tryz.results30, go_sem, k0, k1, k2, k3, k4, k5]
  · exact ⟨some ⟨w3.heap.size, 0, none⟩, 3, some ⟨w7.heap.size, 0, none⟩, 3, by rw [hval], hst.out, hF⟩
end Go.Proofs.YtdhlmhkabckbaaaGreatDoor
/-
  The contract of the law's awake of chapter 24: the example is as it is told.
-/
namespace Go.Proofs.YtdhlmhkabckbaaaGreatDoor
open Go.RowKit
attribute [local go_sem ↓] Go.wp_at_zero Go.wp_at_succ

theorem eqL_same {α : Type} [DecidableEq α] (l : List α) : eqL l l = true := by simp [eqL]
theorem la_size : la.size ≤ maxLen := by rw [show la.size = 32 by decide +kernel]; decide

set_option maxHeartbeats 8000000 in
set_option maxRecDepth 100000 in
theorem law24_awake (w : World) : Calls Tryz.prog 11 #[] w fun e w' => e = .returned (.bool true) ∧ Below w.heap.size w w' := by
  go_enter Tryz.func11, Tryz.ntmps11
  go_wp2_with fail
  refine (law24_example w).mono ?_
  rintro e w1 ⟨X2, x2, X3, x3, rfl, hst, hb1⟩
  go_wp2_with fail
  refine (law24_sign 97 w1).mono ?_
  rintro e w2 ⟨rfl, hb2⟩
  go_wp2_with fail
  have hL : StrsAt (w2.alloc (.cells #[.string (letterRoot 97)] 9)) (w2.alloc (.cells #[.string (letterRoot 97)] 9)).heap.size (some ⟨w2.heap.size, 0, none⟩) 1 [la] := row1 (heap_alloc_new w2 _)
  have hf2 : Below w2.heap.size w2 (w2.alloc (.cells #[.string (letterRoot 97)] 9)) := (Below.refl _ _).alloc (Nat.le_refl _) _
  generalize w2.alloc (.cells #[.string (letterRoot 97)] 9) = wL at hL hf2 ⊢
  have hm := mark_Of _ exS (some ⟨w2.heap.size, 0, none⟩) 1 1 [la] wL (hst.to (hb2.trans (hf2.mono hb2.size))) hL (by intro x hx; simp at hx; subst hx; exact la_size) (by omega)
  rw [mark_ex] at hm
  refine hm.mono ?_
  rintro e w3 ⟨v0, v1, v2, v3, v4, rfl, fv, hb3⟩
  have hbw : Below w.heap.size w w3 := (hb1.trans ((hb2.trans (hf2.mono hb2.size)).mono hb1.size)).trans (hb3.mono (Nat.le_trans hb1.size (Nat.le_trans hb2.size hf2.size)))
  clear hm hL hst hf2 hb1 hb2 hb3
  obtain ⟨A0, n0, c0, rfl⟩ := Owns.form3 (fv.own 0 _ _ rfl rfl)
  have r0 := (fv.own 0 _ _ rfl rfl).row strCell_len
  obtain rfl : n0 = 1 := r0.1.symm
  obtain ⟨A1, n1, c1, rfl⟩ := Owns.form3 (fv.own 1 _ _ rfl rfl)
  have r1 := (fv.own 1 _ _ rfl rfl).row strCell_len
  obtain rfl : n1 = 2 := r1.1.symm
  obtain ⟨A2, n2, c2, rfl⟩ := Owns.form3 (fv.own 2 _ _ rfl rfl)
  have r2 := (fv.own 2 _ _ rfl rfl).row strCell_len
  obtain rfl : n2 = 1 := r2.1.symm
  obtain ⟨A3, n3, c3, rfl⟩ := Owns.form3 (fv.own 3 _ _ rfl rfl)
  have r3 := (fv.own 3 _ _ rfl rfl).row strCell_len
  obtain rfl : n3 = 1 := r3.1.symm
  obtain ⟨A4, n4, c4, rfl⟩ := Owns.form3 (fv.own 4 _ _ rfl rfl)
  have r4 := (fv.own 4 _ _ rfl rfl).row strCell_len
  obtain rfl : n4 = 1 := r4.1.symm
  go_upto_region 2 with fail
  have hf4 : Below w3.heap.size w3 (w3.alloc (.cells #[.slice A0 1 c0, .slice A1 2 c1, .slice A2 1 c2, .slice A3 1 c3, .slice A4 1 c4] 50)) := (Below.refl _ _).alloc (Nat.le_refl _) _
  have bx := SpBox.new 50 w3 (.slice A0 1 c0) (.slice A1 2 c1) (.slice A2 1 c2) (.slice A3 1 c3) (.slice A4 1 c4)
  generalize w3.alloc (.cells #[.slice A0 1 c0, .slice A1 2 c1, .slice A2 1 c2, .slice A3 1 c3, .slice A4 1 c4] 50) = w4 at hf4 bx ⊢
  replace r0 := Lib.hid (r0.to hf4)
  replace r1 := Lib.hid (r1.to hf4)
  replace r2 := Lib.hid (r2.to hf4)
  replace r3 := Lib.hid (r3.to hf4)
  replace r4 := Lib.hid (r4.to hf4)
  obtain ⟨y0, y1, y2, y3, y4⟩ := bx.cells
  have ly := bx.lt
  have hb4 := hbw.trans (hf4.mono hbw.size)
  clear fv bx
  refine region_krip (fun W : World => Below w4.heap.size w4 W) (by kernel_rfl) ((Below.refl _ _).drew) ?_
  (refine kF.takeL (i := 0) (v := ?_) rfl (by kernel_rfl) (fun _ _ _ h => h) (Or.inl ⟨by rfl, ?_⟩) ?_
   rotate_left
   · (intro wS hSw; (try dsimp only at hSw); have hcS := fun b o (h : b < w4.heap.size) => hSw.cell (p := ⟨b, o, none⟩) h; go_simp; (try with_reducible rfl))
   try simp only [Act.put, List.setIfInBounds_toArray, List.set_cons_zero, List.set_cons_succ])
  (refine kF.takeL (i := 1) (v := ?_) rfl (by kernel_rfl) (fun _ _ _ h => h) (Or.inl ⟨by rfl, ?_⟩) ?_
   rotate_left
   · (intro wS hSw; (try dsimp only at hSw); have hcS := fun b o (h : b < w4.heap.size) => hSw.cell (p := ⟨b, o, none⟩) h; go_simp; (try with_reducible rfl))
   try simp only [Act.put, List.setIfInBounds_toArray, List.set_cons_zero, List.set_cons_succ])
  (refine kF.takeL (i := 2) (v := ?_) rfl (by kernel_rfl) (fun _ _ _ h => h) (Or.inl ⟨by rfl, ?_⟩) ?_
   rotate_left
   · (intro wS hSw; (try dsimp only at hSw); have hcS := fun b o (h : b < w4.heap.size) => hSw.cell (p := ⟨b, o, none⟩) h; go_simp; (try with_reducible rfl))
   try simp only [Act.put, List.setIfInBounds_toArray, List.set_cons_zero, List.set_cons_succ])
  (refine kF.takeL (i := 3) (v := ?_) rfl (by kernel_rfl) (fun _ _ _ h => h) (Or.inl ⟨by rfl, ?_⟩) ?_
   rotate_left
   · (intro wS hSw; (try dsimp only at hSw); have hcS := fun b o (h : b < w4.heap.size) => hSw.cell (p := ⟨b, o, none⟩) h; go_simp; (try with_reducible rfl))
   try simp only [Act.put, List.setIfInBounds_toArray, List.set_cons_zero, List.set_cons_succ])
  (refine kF.takeL (i := 4) (v := ?_) rfl (by kernel_rfl) (fun _ _ _ h => h) (Or.inl ⟨by rfl, ?_⟩) ?_
   rotate_left
   · (intro wS hSw; (try dsimp only at hSw); have hcS := fun b o (h : b < w4.heap.size) => hSw.cell (p := ⟨b, o, none⟩) h; go_simp; (try with_reducible rfl))
   try simp only [Act.put, List.setIfInBounds_toArray, List.set_cons_zero, List.set_cons_succ])
  (refine kF.lastL (j := 5) rfl (by kernel_rfl) (fun _ _ _ _ _ => Iff.rfl) (fun _ _ h1 h2 => below_S (Nat.le_refl _) h1 h2) (fun hSk K hK => ?_)
   (go_simp; refine (law24_sign 97 _).mono ?_; rintro e m5 ⟨rfl, hb5⟩)
   refine hK.out _ _ (below_S (Nat.le_refl _) hSk hb5) ?_
   clear hK K
   try simp only [Act.put, List.setIfInBounds_toArray, List.set_cons_zero, List.set_cons_succ])
  (refine kF.newL (i := 6) (fun b => .slice (some ⟨b, 0, none⟩) 1 1) (.cells #[.string (letterRoot 97)] 9) rfl (by kernel_rfl) (by rfl) ?_ ?_
   · (intro wS; go_simp; (try with_reducible rfl)))
  (refine kF.settleL (by kernel_rfl) (fun _ _ _ _ _ => Iff.rfl) (fun _ _ h1 h2 => below_S (Nat.le_refl _) h1 h2) (fun u6 hbu6 hSu6 v hv => ?_)
   obtain ⟨bu6, hBu6, rfl, hxu6⟩ := hv
   try simp only [Act.put, List.setIfInBounds_toArray, List.set_cons_zero, List.set_cons_succ])
  (refine kF.lastL (j := 7) rfl (by kernel_rfl) (fun _ _ _ _ _ => Iff.rfl) (fun _ _ h1 h2 => below_S (Nat.le_refl _) h1 h2) (fun hSk K hK => ?_)
   (go_simp; refine (ref24_Texts A0 (some ⟨bu6, 0, none⟩) 1 1 c0 1 [la] [la] _ (r0.out.to hSk) (row1 hxu6)).mono ?_; rw [eqL_same]; rintro e m7 ⟨rfl, hb7⟩)
   refine hK.out _ _ (below_S (Nat.le_refl _) hSk hb7) ?_
   clear hK K
   try simp only [Act.put, List.setIfInBounds_toArray, List.set_cons_zero, List.set_cons_succ])
  (refine kF.takeL (i := 8) (v := ?_) rfl (by kernel_rfl) (fun _ _ _ h => h) (Or.inl ⟨by rfl, ?_⟩) ?_
   rotate_left
   · (intro wS hSw; (try dsimp only at hSw); have hcS := fun b o (h : b < w4.heap.size) => hSw.cell (p := ⟨b, o, none⟩) h; go_simp; (try with_reducible rfl))
   try simp only [Act.put, List.setIfInBounds_toArray, List.set_cons_zero, List.set_cons_succ])
  (refine kF.takeL (i := 9) (v := ?_) rfl (by kernel_rfl) (fun _ _ _ h => h) (Or.inl ⟨by rfl, ?_⟩) ?_
   rotate_left
   · (intro wS hSw; (try dsimp only at hSw); have hcS := fun b o (h : b < w4.heap.size) => hSw.cell (p := ⟨b, o, none⟩) h; go_simp; (try with_reducible rfl))
   try simp only [Act.put, List.setIfInBounds_toArray, List.set_cons_zero, List.set_cons_succ])
  (refine kF.takeL (i := 10) (v := ?_) rfl (by kernel_rfl) (fun _ _ _ h => h) (Or.inl ⟨by rfl, ?_⟩) ?_
   rotate_left
   · (intro wS hSw; (try dsimp only at hSw); have hcS := fun b o (h : b < w4.heap.size) => hSw.cell (p := ⟨b, o, none⟩) h; go_simp; (try with_reducible rfl))
   try simp only [Act.put, List.setIfInBounds_toArray, List.set_cons_zero, List.set_cons_succ])
  (refine kF.takeL (i := 11) (v := ?_) rfl (by kernel_rfl) (fun _ _ _ h => h) (Or.inl ⟨by rfl, ?_⟩) ?_
   rotate_left
   · (intro wS hSw; (try dsimp only at hSw); have hcS := fun b o (h : b < w4.heap.size) => hSw.cell (p := ⟨b, o, none⟩) h; go_simp; (try with_reducible rfl))
   try simp only [Act.put, List.setIfInBounds_toArray, List.set_cons_zero, List.set_cons_succ])
  (refine kF.lastL (j := 12) rfl (by kernel_rfl) (fun _ _ _ _ _ => Iff.rfl) (fun _ _ h1 h2 => below_S (Nat.le_refl _) h1 h2) (fun hSk K hK => ?_)
   (go_simp; refine (law24_sign 98 _).mono ?_; rintro e m12 ⟨rfl, hb12⟩)
   refine hK.out _ _ (below_S (Nat.le_refl _) hSk hb12) ?_
   clear hK K
   try simp only [Act.put, List.setIfInBounds_toArray, List.set_cons_zero, List.set_cons_succ])
  (refine kF.lastL (j := 13) rfl (by kernel_rfl) (fun _ _ _ _ _ => Iff.rfl) (fun _ _ h1 h2 => below_S (Nat.le_refl _) h1 h2) (fun hSk K hK => ?_)
   (go_simp; refine (law24_sign 99 _).mono ?_; rintro e m13 ⟨rfl, hb13⟩)
   refine hK.out _ _ (below_S (Nat.le_refl _) hSk hb13) ?_
   clear hK K
   try simp only [Act.put, List.setIfInBounds_toArray, List.set_cons_zero, List.set_cons_succ])
  (refine kF.newL (i := 14) (fun b => .slice (some ⟨b, 0, none⟩) 2 2) (.cells #[.string (letterRoot 98), .string (letterRoot 99)] 9) rfl (by kernel_rfl) (by rfl) ?_ ?_
   · (intro wS; go_simp; (try with_reducible rfl)))
  (refine kF.settleL (by kernel_rfl) (fun _ _ _ _ _ => Iff.rfl) (fun _ _ h1 h2 => below_S (Nat.le_refl _) h1 h2) (fun u14 hbu14 hSu14 v hv => ?_)
   obtain ⟨bu14, hBu14, rfl, hxu14⟩ := hv
   try simp only [Act.put, List.setIfInBounds_toArray, List.set_cons_zero, List.set_cons_succ])
  (refine kF.lastL (j := 15) rfl (by kernel_rfl) (fun _ _ _ _ _ => Iff.rfl) (fun _ _ h1 h2 => below_S (Nat.le_refl _) h1 h2) (fun hSk K hK => ?_)
   (go_simp; refine (ref24_Texts A1 (some ⟨bu14, 0, none⟩) 2 2 c1 2 [lb, lc] [lb, lc] _ (r1.out.to hSk) (row2 hxu14)).mono ?_; rw [eqL_same]; rintro e m15 ⟨rfl, hb15⟩)
   refine hK.out _ _ (below_S (Nat.le_refl _) hSk hb15) ?_
   clear hK K
   try simp only [Act.put, List.setIfInBounds_toArray, List.set_cons_zero, List.set_cons_succ])
  (refine kF.takeL (i := 16) (v := ?_) rfl (by kernel_rfl) (fun _ _ _ h => h) (Or.inl ⟨by rfl, ?_⟩) ?_
   rotate_left
   · (intro wS hSw; (try dsimp only at hSw); have hcS := fun b o (h : b < w4.heap.size) => hSw.cell (p := ⟨b, o, none⟩) h; go_simp; (try with_reducible rfl))
   try simp only [Act.put, List.setIfInBounds_toArray, List.set_cons_zero, List.set_cons_succ])
  (refine kF.takeL (i := 17) (v := ?_) rfl (by kernel_rfl) (fun _ _ _ h => h) (Or.inl ⟨by rfl, ?_⟩) ?_
   rotate_left
   · (intro wS hSw; (try dsimp only at hSw); have hcS := fun b o (h : b < w4.heap.size) => hSw.cell (p := ⟨b, o, none⟩) h; go_simp; (try with_reducible rfl))
   try simp only [Act.put, List.setIfInBounds_toArray, List.set_cons_zero, List.set_cons_succ])
  (refine kF.takeL (i := 18) (v := ?_) rfl (by kernel_rfl) (fun _ _ _ h => h) (Or.inl ⟨by rfl, ?_⟩) ?_
   rotate_left
   · (intro wS hSw; (try dsimp only at hSw); have hcS := fun b o (h : b < w4.heap.size) => hSw.cell (p := ⟨b, o, none⟩) h; go_simp; (try with_reducible rfl))
   try simp only [Act.put, List.setIfInBounds_toArray, List.set_cons_zero, List.set_cons_succ])
  (refine kF.takeL (i := 19) (v := ?_) rfl (by kernel_rfl) (fun _ _ _ h => h) (Or.inl ⟨by rfl, ?_⟩) ?_
   rotate_left
   · (intro wS hSw; (try dsimp only at hSw); have hcS := fun b o (h : b < w4.heap.size) => hSw.cell (p := ⟨b, o, none⟩) h; go_simp; (try with_reducible rfl))
   try simp only [Act.put, List.setIfInBounds_toArray, List.set_cons_zero, List.set_cons_succ])
  (refine kF.lastL (j := 20) rfl (by kernel_rfl) (fun _ _ _ _ _ => Iff.rfl) (fun _ _ h1 h2 => below_S (Nat.le_refl _) h1 h2) (fun hSk K hK => ?_)
   (go_simp; refine (law24_sign 112 _).mono ?_; rintro e m20 ⟨rfl, hb20⟩)
   refine hK.out _ _ (below_S (Nat.le_refl _) hSk hb20) ?_
   clear hK K
   try simp only [Act.put, List.setIfInBounds_toArray, List.set_cons_zero, List.set_cons_succ])
  (refine kF.newL (i := 21) (fun b => .slice (some ⟨b, 0, none⟩) 1 1) (.cells #[.string (letterRoot 112)] 9) rfl (by kernel_rfl) (by rfl) ?_ ?_
   · (intro wS; go_simp; (try with_reducible rfl)))
  (refine kF.settleL (by kernel_rfl) (fun _ _ _ _ _ => Iff.rfl) (fun _ _ h1 h2 => below_S (Nat.le_refl _) h1 h2) (fun u21 hbu21 hSu21 v hv => ?_)
   obtain ⟨bu21, hBu21, rfl, hxu21⟩ := hv
   try simp only [Act.put, List.setIfInBounds_toArray, List.set_cons_zero, List.set_cons_succ])
  (refine kF.lastL (j := 22) rfl (by kernel_rfl) (fun _ _ _ _ _ => Iff.rfl) (fun _ _ h1 h2 => below_S (Nat.le_refl _) h1 h2) (fun hSk K hK => ?_)
   (go_simp; refine (ref24_Texts A2 (some ⟨bu21, 0, none⟩) 1 1 c2 1 [lp] [lp] _ (r2.out.to hSk) (row1 hxu21)).mono ?_; rw [eqL_same]; rintro e m22 ⟨rfl, hb22⟩)
   refine hK.out _ _ (below_S (Nat.le_refl _) hSk hb22) ?_
   clear hK K
   try simp only [Act.put, List.setIfInBounds_toArray, List.set_cons_zero, List.set_cons_succ])
  (refine kF.takeL (i := 23) (v := ?_) rfl (by kernel_rfl) (fun _ _ _ h => h) (Or.inl ⟨by rfl, ?_⟩) ?_
   rotate_left
   · (intro wS hSw; (try dsimp only at hSw); have hcS := fun b o (h : b < w4.heap.size) => hSw.cell (p := ⟨b, o, none⟩) h; go_simp; (try with_reducible rfl))
   try simp only [Act.put, List.setIfInBounds_toArray, List.set_cons_zero, List.set_cons_succ])
  (refine kF.takeL (i := 24) (v := ?_) rfl (by kernel_rfl) (fun _ _ _ h => h) (Or.inl ⟨by rfl, ?_⟩) ?_
   rotate_left
   · (intro wS hSw; (try dsimp only at hSw); have hcS := fun b o (h : b < w4.heap.size) => hSw.cell (p := ⟨b, o, none⟩) h; go_simp; (try with_reducible rfl))
   try simp only [Act.put, List.setIfInBounds_toArray, List.set_cons_zero, List.set_cons_succ])
  (refine kF.takeL (i := 25) (v := ?_) rfl (by kernel_rfl) (fun _ _ _ h => h) (Or.inl ⟨by rfl, ?_⟩) ?_
   rotate_left
   · (intro wS hSw; (try dsimp only at hSw); have hcS := fun b o (h : b < w4.heap.size) => hSw.cell (p := ⟨b, o, none⟩) h; go_simp; (try with_reducible rfl))
   try simp only [Act.put, List.setIfInBounds_toArray, List.set_cons_zero, List.set_cons_succ])
  (refine kF.takeL (i := 26) (v := ?_) rfl (by kernel_rfl) (fun _ _ _ h => h) (Or.inl ⟨by rfl, ?_⟩) ?_
   rotate_left
   · (intro wS hSw; (try dsimp only at hSw); have hcS := fun b o (h : b < w4.heap.size) => hSw.cell (p := ⟨b, o, none⟩) h; go_simp; (try with_reducible rfl))
   try simp only [Act.put, List.setIfInBounds_toArray, List.set_cons_zero, List.set_cons_succ])
  (refine kF.lastL (j := 27) rfl (by kernel_rfl) (fun _ _ _ _ _ => Iff.rfl) (fun _ _ h1 h2 => below_S (Nat.le_refl _) h1 h2) (fun hSk K hK => ?_)
   (go_simp; refine (law24_sign 113 _).mono ?_; rintro e m27 ⟨rfl, hb27⟩)
   refine hK.out _ _ (below_S (Nat.le_refl _) hSk hb27) ?_
   clear hK K
   try simp only [Act.put, List.setIfInBounds_toArray, List.set_cons_zero, List.set_cons_succ])
  (refine kF.newL (i := 28) (fun b => .slice (some ⟨b, 0, none⟩) 1 1) (.cells #[.string (letterRoot 113)] 9) rfl (by kernel_rfl) (by rfl) ?_ ?_
   · (intro wS; go_simp; (try with_reducible rfl)))
  (refine kF.settleL (by kernel_rfl) (fun _ _ _ _ _ => Iff.rfl) (fun _ _ h1 h2 => below_S (Nat.le_refl _) h1 h2) (fun u28 hbu28 hSu28 v hv => ?_)
   obtain ⟨bu28, hBu28, rfl, hxu28⟩ := hv
   try simp only [Act.put, List.setIfInBounds_toArray, List.set_cons_zero, List.set_cons_succ])
  (refine kF.lastL (j := 29) rfl (by kernel_rfl) (fun _ _ _ _ _ => Iff.rfl) (fun _ _ h1 h2 => below_S (Nat.le_refl _) h1 h2) (fun hSk K hK => ?_)
   (go_simp; refine (ref24_Texts A3 (some ⟨bu28, 0, none⟩) 1 1 c3 1 [lq] [lq] _ (r3.out.to hSk) (row1 hxu28)).mono ?_; rw [eqL_same]; rintro e m29 ⟨rfl, hb29⟩)
   refine hK.out _ _ (below_S (Nat.le_refl _) hSk hb29) ?_
   clear hK K
   try simp only [Act.put, List.setIfInBounds_toArray, List.set_cons_zero, List.set_cons_succ])
  (refine kF.takeL (i := 30) (v := ?_) rfl (by kernel_rfl) (fun _ _ _ h => h) (Or.inl ⟨by rfl, ?_⟩) ?_
   rotate_left
   · (intro wS hSw; (try dsimp only at hSw); have hcS := fun b o (h : b < w4.heap.size) => hSw.cell (p := ⟨b, o, none⟩) h; go_simp; (try with_reducible rfl))
   try simp only [Act.put, List.setIfInBounds_toArray, List.set_cons_zero, List.set_cons_succ])
  (refine kF.takeL (i := 31) (v := ?_) rfl (by kernel_rfl) (fun _ _ _ h => h) (Or.inl ⟨by rfl, ?_⟩) ?_
   rotate_left
   · (intro wS hSw; (try dsimp only at hSw); have hcS := fun b o (h : b < w4.heap.size) => hSw.cell (p := ⟨b, o, none⟩) h; go_simp; (try with_reducible rfl))
   try simp only [Act.put, List.setIfInBounds_toArray, List.set_cons_zero, List.set_cons_succ])
  (refine kF.takeL (i := 32) (v := ?_) rfl (by kernel_rfl) (fun _ _ _ h => h) (Or.inl ⟨by rfl, ?_⟩) ?_
   rotate_left
   · (intro wS hSw; (try dsimp only at hSw); have hcS := fun b o (h : b < w4.heap.size) => hSw.cell (p := ⟨b, o, none⟩) h; go_simp; (try with_reducible rfl))
   try simp only [Act.put, List.setIfInBounds_toArray, List.set_cons_zero, List.set_cons_succ])
  (refine kF.takeL (i := 33) (v := ?_) rfl (by kernel_rfl) (fun _ _ _ h => h) (Or.inl ⟨by rfl, ?_⟩) ?_
   rotate_left
   · (intro wS hSw; (try dsimp only at hSw); have hcS := fun b o (h : b < w4.heap.size) => hSw.cell (p := ⟨b, o, none⟩) h; go_simp; (try with_reducible rfl))
   try simp only [Act.put, List.setIfInBounds_toArray, List.set_cons_zero, List.set_cons_succ])
  (refine kF.lastL (j := 34) rfl (by kernel_rfl) (fun _ _ _ _ _ => Iff.rfl) (fun _ _ h1 h2 => below_S (Nat.le_refl _) h1 h2) (fun hSk K hK => ?_)
   (go_simp; refine (law24_sign 97 _).mono ?_; rintro e m34 ⟨rfl, hb34⟩)
   refine hK.out _ _ (below_S (Nat.le_refl _) hSk hb34) ?_
   clear hK K
   try simp only [Act.put, List.setIfInBounds_toArray, List.set_cons_zero, List.set_cons_succ])
  (refine kF.newL (i := 35) (fun b => .slice (some ⟨b, 0, none⟩) 1 1) (.cells #[.string (letterRoot 97)] 9) rfl (by kernel_rfl) (by rfl) ?_ ?_
   · (intro wS; go_simp; (try with_reducible rfl)))
  (refine kF.settleL (by kernel_rfl) (fun _ _ _ _ _ => Iff.rfl) (fun _ _ h1 h2 => below_S (Nat.le_refl _) h1 h2) (fun u35 hbu35 hSu35 v hv => ?_)
   obtain ⟨bu35, hBu35, rfl, hxu35⟩ := hv
   try simp only [Act.put, List.setIfInBounds_toArray, List.set_cons_zero, List.set_cons_succ])
  (refine kF.lastL (j := 36) rfl (by kernel_rfl) (fun _ _ _ _ _ => Iff.rfl) (fun _ _ h1 h2 => below_S (Nat.le_refl _) h1 h2) (fun hSk K hK => ?_)
   (go_simp; refine (ref24_Texts A4 (some ⟨bu35, 0, none⟩) 1 1 c4 1 [la] [la] _ (r4.out.to hSk) (row1 hxu35)).mono ?_; rw [eqL_same]; rintro e m36 ⟨rfl, hb36⟩; have hSe := hSk.trans (hb36.mono hSk.size))
   refine hK.out _ _ (below_S (Nat.le_refl _) hSk hb36) ?_
   clear hK K
   try simp only [Act.put, List.setIfInBounds_toArray, List.set_cons_zero, List.set_cons_succ])
  (refine kF.takeL (i := 37) (v := ?_) rfl (by kernel_rfl) (fun _ _ _ h => h) (Or.inl ⟨by rfl, ?_⟩) ?_
   rotate_left
   · (intro wS hSw; (try dsimp only at hSw); have hcS := fun b o (h : b < w4.heap.size) => hSw.cell (p := ⟨b, o, none⟩) h; go_simp; (try with_reducible rfl))
   try simp only [Act.put, List.setIfInBounds_toArray, List.set_cons_zero, List.set_cons_succ])
  (refine kF.takeL (i := 38) (v := ?_) rfl (by kernel_rfl) (fun _ _ _ h => h) (Or.inl ⟨by rfl, ?_⟩) ?_
   rotate_left
   · (intro wS hSw; (try dsimp only at hSw); have hcS := fun b o (h : b < w4.heap.size) => hSw.cell (p := ⟨b, o, none⟩) h; go_simp; (try with_reducible rfl))
   try simp only [Act.put, List.setIfInBounds_toArray, List.set_cons_zero, List.set_cons_succ])
  refine kF.done (by kernel_rfl) ?_
  go_wp2_with fail
  go_ret
  exact ⟨rfl, hb4.trans (hSe.mono hb4.size)⟩
end Go.Proofs.YtdhlmhkabckbaaaGreatDoor
