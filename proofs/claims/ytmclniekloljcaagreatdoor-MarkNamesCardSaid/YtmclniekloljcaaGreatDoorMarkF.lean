/-
  The contracts of the law's sign and example of chapter 24.
-/
import Derived.Test.YtmclniekloljcaaGreatDoorMarkX
import Derived.Test.YtmclniekloljcaaGreatDoorMarkB
import Derived.Test.YtmclniekloljcaaGreatDoorMarkC
namespace Go.Proofs.YtmclniekloljcaaGreatDoor
open Go.RowKit
attribute [local go_sem ↓] Go.wp_at_zero Go.wp_at_succ

set_option maxHeartbeats 1000000 in
theorem law24_sign (c : UInt8) (w : World) :
    Calls Tryz.prog 22 #[.int .u8 c.toNat] w fun e w' => e = .returned (.string (letterRoot c)) ∧ Below w.heap.size w w' := by
  have hmk := make32
  go_enter Tryz.func22, Tryz.ntmps22
  go_wp2_with fail
  go_loopw [4] (fun i wr => ∃ k : Nat, k ≤ 32 ∧ i = .int .i64 k ∧ Owns 1 byteCell 5 wr w.heap.size (.slice (some ⟨w.heap.size, 0, none⟩) 32 32) (letters k c) ∧ Below w.heap.size w wr) (fun i _ => 32 - (intOf i).toNat)
  case atStart =>
    refine ⟨0, by omega, rfl, ?_, (by repeat (first | exact Below.refl _ _ | assumption | refine Below.drew ?_ | refine below_drewN ?_ _ | refine Below.alloc ?_ (by first | omega | (simp; try omega)) _ | refine Below.setCell ?_ (by first | omega | (simp; try omega)) _ | (refine Below.trans ?_ (Below.mono (by assumption) (by first | omega | (simp; try omega))))))⟩
    exact ⟨rfl, .inr ⟨w.heap.size, 32, zcells, rfl, Nat.le_refl _, heap_alloc_new w _, Nat.le_refl _, by simp [maxLen], rfl, rfl⟩⟩
  case round =>
    obtain ⟨k, hk, rfl, ho, hbw⟩ := hrel
    by_cases hlt : k < 32
    · have ho' := ho
      unfold Owns at ho'
      rw [letters_len hk] at ho'
      have hc := ho'.cellAt k (by omega)
      obtain ⟨x, hx⟩ := getElem_some (l := (letters k c).flatMap byteCell) (i := k) (by rw [flat_len byteCell_len, letters_len hk]; omega)
      rw [hx] at hc
      have hf := ho'.frozenAt k
      have hst := ho'.stored k (.int .u8 c.toNat)
      rw [flat_set, letters_set hlt] at hst
      replace hst := Lib.hid hst
      replace ho := Lib.hid ho
      replace ho' := Lib.hid ho'
      clear hx
      go_wp2
      go_roundw
      case rel => exact ⟨k + 1, by omega, by go_num, by unfold Owns; rw [letters_len (by omega)]; exact hst.out.1, (by repeat (first | exact Below.refl _ _ | assumption | refine Below.drew ?_ | refine below_drewN ?_ _ | refine Below.alloc ?_ (by first | omega | (simp; try omega)) _ | refine Below.setCell ?_ (by first | omega | (simp; try omega)) _ | (refine Below.trans ?_ (Below.mono (by assumption) (by first | omega | (simp; try omega))))))⟩
      case measure => simp [intOf]; omega
    · obtain rfl : k = 32 := by omega
      have hcv := run_bytes_str (c := 32) (ho.row byteCell_len)
      rw [show str (letters 32 c) = letterRoot c by simp [letters, letterRoot]] at hcv
      replace ho := Lib.hid ho
      go_wp2
      go_ret
      exact ⟨rfl, (by repeat (first | exact Below.refl _ _ | assumption | refine Below.drew ?_ | refine below_drewN ?_ _ | refine Below.alloc ?_ (by first | omega | (simp; try omega)) _ | refine Below.setCell ?_ (by first | omega | (simp; try omega)) _ | (refine Below.trans ?_ (Below.mono (by assumption) (by first | omega | (simp; try omega))))))⟩

theorem row1 {w : World} {b : Nat} {s : ByteArray} (h : w.heap[b]? = some (.cells #[.string s] 9)) : StrsAt w w.heap.size (some ⟨b, 0, none⟩) 1 [s] := by
  refine ⟨rfl, by omega, fun _ => ⟨b, 0, rfl, (Array.getElem?_eq_some_iff.1 h).1, fun i x hx j v hv => ?_⟩⟩
  rcases i with _ | i
  · simp at hx
    subst hx
    rcases j with _ | j <;> simp [strCell] at hv
    subst hv
    exact cell_of_row w b 0 _ _ _ h
  · simp at hx
theorem row2 {w : World} {b : Nat} {s t : ByteArray} (h : w.heap[b]? = some (.cells #[.string s, .string t] 9)) : StrsAt w w.heap.size (some ⟨b, 0, none⟩) 2 [s, t] := by
  refine ⟨rfl, by omega, fun _ => ⟨b, 0, rfl, (Array.getElem?_eq_some_iff.1 h).1, fun i x hx j v hv => ?_⟩⟩
  rcases i with _ | _ | i <;> simp at hx <;> subst hx <;> rcases j with _ | j <;> simp [strCell] at hv <;> subst hv
  · exact cell_of_row w b 0 _ _ _ h
  · exact cell_of_row w b 1 _ _ _ h
theorem row3 {w : World} {b : Nat} {s t u : ByteArray} (h : w.heap[b]? = some (.cells #[.string s, .string t, .string u] 9)) : StrsAt w w.heap.size (some ⟨b, 0, none⟩) 3 [s, t, u] := by
  refine ⟨rfl, by omega, fun _ => ⟨b, 0, rfl, (Array.getElem?_eq_some_iff.1 h).1, fun i x hx j v hv => ?_⟩⟩
  rcases i with _ | _ | _ | i <;> simp at hx <;> subst hx <;> rcases j with _ | j <;> simp [strCell] at hv <;> subst hv
  · exact cell_of_row w b 0 _ _ _ h
  · exact cell_of_row w b 1 _ _ _ h
  · exact cell_of_row w b 2 _ _ _ h
theorem prow3 {w : World} {b : Nat} {p q r : Place} (h : w.heap[b]? = some (.cells #[.string p.pack, .int .i64 p.at_, .int .i64 p.len, .string q.pack, .int .i64 q.at_, .int .i64 q.len, .string r.pack, .int .i64 r.at_, .int .i64 r.len] 71)) : PlacesAt w w.heap.size (some ⟨b, 0, none⟩) 3 [p, q, r] := by
  refine ⟨rfl, by omega, fun _ => ⟨b, 0, rfl, (Array.getElem?_eq_some_iff.1 h).1, fun i x hx j v hv => ?_⟩⟩
  rcases i with _ | _ | _ | i <;> simp at hx <;> subst hx <;> rcases j with _ | _ | _ | j <;> simp [Place.cells] at hv <;> subst hv
  · exact cell_of_row w b 0 _ _ _ h
  · exact cell_of_row w b 1 _ _ _ h
  · exact cell_of_row w b 2 _ _ _ h
  · exact cell_of_row w b 3 _ _ _ h
  · exact cell_of_row w b 4 _ _ _ h
  · exact cell_of_row w b 5 _ _ _ h
  · exact cell_of_row w b 6 _ _ _ h
  · exact cell_of_row w b 7 _ _ _ h
  · exact cell_of_row w b 8 _ _ _ h
theorem blkB {w w' : World} {b : Nat} {o : Obj} (h : w.heap[b]? = some o) (hb : Below w.heap.size w w') : w'.heap[b]? = some o := (hb.block b (Array.getElem?_eq_some_iff.1 h).1).trans h

theorem boxZ {w : World} {b : Nat} {v4 v5 v6 : Value} (h : BoxAt w b 0 0 0 v4 v5 v6) (u4 u5 u6 : Value) : BoxAt ((((((w.setCell ⟨b, 0, none⟩ (.int .i64 0)).setCell ⟨b, 1, none⟩ (.int .i64 0)).setCell ⟨b, 2, none⟩ (.int .i64 0)).setCell ⟨b, 3, none⟩ u4).setCell ⟨b, 4, none⟩ u5).setCell ⟨b, 5, none⟩ u6) b 0 0 0 u4 u5 u6 :=
  (heap_setCell (heap_setCell (heap_setCell (heap_setCell (heap_setCell (heap_setCell h _) _) _) _) _) _).trans rfl

set_option maxHeartbeats 400000 in
set_option maxRecDepth 100000 in
theorem law24_example (w : World) :
    Calls Tryz.prog 21 #[] w fun e w' => ∃ A2 c2 A3 c3, e = .returned (Rws.val ⟨none, 0, 0, A2, 3, c2, A3, 3, c3⟩ exS) ∧ StAt w' w'.heap.size ⟨none, 0, 0, A2, 3, c2, A3, 3, c3⟩ exS ∧ Below w.heap.size w w' := by
  go_enter Tryz.func21, Tryz.ntmps21
  go_upto_region 1 with fail
  have hz : (w.alloc (.cells #[.int .i64 0, .int .i64 0, .int .i64 0, .slice none 0 0, .slice none 0 0, .slice none 0 0] 38)).heap.size = w.heap.size + 1 := by simp
  have bz := Lib.hid (BoxAt.new w 0 0 0 (.slice none 0 0) (.slice none 0 0) (.slice none 0 0))
  have f0 : Below w.heap.size w (w.alloc (.cells #[.int .i64 0, .int .i64 0, .int .i64 0, .slice none 0 0, .slice none 0 0, .slice none 0 0] 38)) := (Below.refl _ _).alloc (Nat.le_refl _) _
  generalize w.alloc (.cells #[.int .i64 0, .int .i64 0, .int .i64 0, .slice none 0 0, .slice none 0 0, .slice none 0 0] 38) = w0 at hz bz f0 ⊢
  go_wp2_with fail
  refine (law24_sign 97 w0).mono ?_
  rintro e w1 ⟨rfl, hb1⟩
  go_wp2_with fail
  refine (law24_sign 98 w1).mono ?_
  rintro e w2 ⟨rfl, hb2⟩
  go_wp2_with fail
  refine (law24_sign 99 w2).mono ?_
  rintro e w3 ⟨rfl, hb3⟩
  have h03 : Below w0.heap.size w0 w3 := (hb1.trans (hb2.mono hb1.size)).trans (hb3.mono (Nat.le_trans hb1.size hb2.size))
  go_wp2_with fail
  have hc4 : (w3.alloc (.cells #[.string (letterRoot 97), .string (letterRoot 98), .string (letterRoot 99)] 9)).heap[w3.heap.size]? = some (.cells #[.string (letterRoot 97), .string (letterRoot 98), .string (letterRoot 99)] 9) := heap_alloc_new w3 _
  have h04 := h03.alloc (B := w0.heap.size) (h03.size) (.cells #[.string (letterRoot 97), .string (letterRoot 98), .string (letterRoot 99)] 9)
  have hz4 : (w3.alloc (.cells #[.string (letterRoot 97), .string (letterRoot 98), .string (letterRoot 99)] 9)).heap.size = w3.heap.size + 1 := by simp
  generalize w3.alloc (.cells #[.string (letterRoot 97), .string (letterRoot 98), .string (letterRoot 99)] 9) = w4 at hc4 h04 hz4 ⊢
  refine (law24_sign 112 w4).mono ?_
  rintro e w5 ⟨rfl, hb5⟩
  go_wp2_with fail
  refine (law24_sign 112 w5).mono ?_
  rintro e w6 ⟨rfl, hb6⟩
  go_wp2_with fail
  refine (law24_sign 113 w6).mono ?_
  rintro e w7 ⟨rfl, hb7⟩
  have h47 : Below w4.heap.size w4 w7 := (hb5.trans (hb6.mono hb5.size)).trans (hb7.mono (Nat.le_trans hb5.size hb6.size))
  have h07 := h04.trans (h47.mono h04.size)
  have h7s := h07.size
  have h3s := h03.size
  have h47s := h47.size
  have hc7 := blkB hc4 h47
  replace bz := bz.out.below h07
  obtain ⟨x0, x1, x2, x3, x4, x5⟩ := bz.cells
  have lx := bz.lt
  have e0 := bz.frozen 0
  have e1 := bz.frozen 1
  have e2 := bz.frozen 2
  have e3 := bz.frozen 3
  have e4 := bz.frozen 4
  have e5 := bz.frozen 5
  go_wp2_with fail
  have hne3 : w3.heap.size ≠ w.heap.size := by omega
  have b7 := boxZ bz (.slice none 0 0) (.slice (some ⟨w3.heap.size, 0, none⟩) 3 3) (.slice (some ⟨w7.heap.size, 0, none⟩) 3 3)
  have hc9 : ((((((w7.setCell ⟨w.heap.size, 0, none⟩ (.int .i64 0)).setCell ⟨w.heap.size, 1, none⟩ (.int .i64 0)).setCell ⟨w.heap.size, 2, none⟩ (.int .i64 0)).setCell ⟨w.heap.size, 3, none⟩ (.slice none 0 0)).setCell ⟨w.heap.size, 4, none⟩ (.slice (some ⟨w3.heap.size, 0, none⟩) 3 3)).setCell ⟨w.heap.size, 5, none⟩ (.slice (some ⟨w7.heap.size, 0, none⟩) 3 3)).heap[w3.heap.size]? = some (.cells #[.string (letterRoot 97), .string (letterRoot 98), .string (letterRoot 99)] 9) := (((((((Go.Deep.blk_setCell_other _ _ _ _ hne3).trans (Go.Deep.blk_setCell_other _ _ _ _ hne3)).trans (Go.Deep.blk_setCell_other _ _ _ _ hne3)).trans (Go.Deep.blk_setCell_other _ _ _ _ hne3)).trans (Go.Deep.blk_setCell_other _ _ _ _ hne3)).trans (Go.Deep.blk_setCell_other _ _ _ _ hne3))).trans hc7
  have h07' : Below w.heap.size w w7 := f0.trans (h07.mono (by omega))
  have hF7 : Below w.heap.size w ((((((w7.setCell ⟨w.heap.size, 0, none⟩ (.int .i64 0)).setCell ⟨w.heap.size, 1, none⟩ (.int .i64 0)).setCell ⟨w.heap.size, 2, none⟩ (.int .i64 0)).setCell ⟨w.heap.size, 3, none⟩ (.slice none 0 0)).setCell ⟨w.heap.size, 4, none⟩ (.slice (some ⟨w3.heap.size, 0, none⟩) 3 3)).setCell ⟨w.heap.size, 5, none⟩ (.slice (some ⟨w7.heap.size, 0, none⟩) 3 3)) := (((((h07'.setCell (p := ⟨w.heap.size, 0, none⟩) (Nat.le_refl _) _).setCell (p := ⟨w.heap.size, 1, none⟩) (Nat.le_refl _) _).setCell (p := ⟨w.heap.size, 2, none⟩) (Nat.le_refl _) _).setCell (p := ⟨w.heap.size, 3, none⟩) (Nat.le_refl _) _).setCell (p := ⟨w.heap.size, 4, none⟩) (Nat.le_refl _) _).setCell (p := ⟨w.heap.size, 5, none⟩) (Nat.le_refl _) _
  have hs9 : ((((((w7.setCell ⟨w.heap.size, 0, none⟩ (.int .i64 0)).setCell ⟨w.heap.size, 1, none⟩ (.int .i64 0)).setCell ⟨w.heap.size, 2, none⟩ (.int .i64 0)).setCell ⟨w.heap.size, 3, none⟩ (.slice none 0 0)).setCell ⟨w.heap.size, 4, none⟩ (.slice (some ⟨w3.heap.size, 0, none⟩) 3 3)).setCell ⟨w.heap.size, 5, none⟩ (.slice (some ⟨w7.heap.size, 0, none⟩) 3 3)).heap.size = w7.heap.size := by simp
  generalize ((((((w7.setCell ⟨w.heap.size, 0, none⟩ (.int .i64 0)).setCell ⟨w.heap.size, 1, none⟩ (.int .i64 0)).setCell ⟨w.heap.size, 2, none⟩ (.int .i64 0)).setCell ⟨w.heap.size, 3, none⟩ (.slice none 0 0)).setCell ⟨w.heap.size, 4, none⟩ (.slice (some ⟨w3.heap.size, 0, none⟩) 3 3)).setCell ⟨w.heap.size, 5, none⟩ (.slice (some ⟨w7.heap.size, 0, none⟩) 3 3)) = w9 at b7 hc9 hF7 hs9 ⊢
  have hpF : (w9.alloc (.cells #[.string (letterRoot 112), .int .i64 10, .int .i64 5, .string (letterRoot 112), .int .i64 15, .int .i64 5, .string (letterRoot 113), .int .i64 8, .int .i64 9] 71)).heap[w7.heap.size]? = some (.cells #[.string (letterRoot 112), .int .i64 10, .int .i64 5, .string (letterRoot 112), .int .i64 15, .int .i64 5, .string (letterRoot 113), .int .i64 8, .int .i64 9] 71) := by rw [← hs9]; exact heap_alloc_new w9 _
  have hcF : (w9.alloc (.cells #[.string (letterRoot 112), .int .i64 10, .int .i64 5, .string (letterRoot 112), .int .i64 15, .int .i64 5, .string (letterRoot 113), .int .i64 8, .int .i64 9] 71)).heap[w3.heap.size]? = some (.cells #[.string (letterRoot 97), .string (letterRoot 98), .string (letterRoot 99)] 9) := (Go.Deep.blk_alloc_lt _ _ _ (by omega)).trans hc9
  have hF := hF7.alloc (B := w.heap.size) (by omega) (.cells #[.string (letterRoot 112), .int .i64 10, .int .i64 5, .string (letterRoot 112), .int .i64 15, .int .i64 5, .string (letterRoot 113), .int .i64 8, .int .i64 9] 71)
  have b9 := b7.alloc (.cells #[.string (letterRoot 112), .int .i64 10, .int .i64 5, .string (letterRoot 112), .int .i64 15, .int .i64 5, .string (letterRoot 113), .int .i64 8, .int .i64 9] 71)
  generalize w9.alloc (.cells #[.string (letterRoot 112), .int .i64 10, .int .i64 5, .string (letterRoot 112), .int .i64 15, .int .i64 5, .string (letterRoot 113), .int .i64 8, .int .i64 9] 71) = wF at hcF hpF hF b9 ⊢
  have ok : ∀ p ∈ exS.ps, PlaceOk p := by
    intro p hp
    simp at hp
    rcases hp with rfl | rfl | rfl <;> simp [PlaceOk]
  have rc := row3 hcF
  have rp := prow3 (p := ⟨lp, 10, 5⟩) (q := ⟨lp, 15, 5⟩) (r := ⟨lq, 8, 9⟩) hpF
  have hst : StAt wF wF.heap.size ⟨none, 0, 0, some ⟨w3.heap.size, 0, none⟩, 3, 3, some ⟨w7.heap.size, 0, none⟩, 3, 3⟩ exS := ⟨RowAt.none_, rc, rp, ok⟩
  obtain ⟨k0, k1, k2, k3, k4, k5⟩ := b9.cells
  have hval : (Value.agg #[.int .i64 0, .int .i64 0, .int .i64 0, .slice none 0 0, .slice (some ⟨w3.heap.size, 0, none⟩) 3 3, .slice (some ⟨w7.heap.size, 0, none⟩) 3 3]) = Rws.val ⟨none, 0, 0, some ⟨w3.heap.size, 0, none⟩, 3, 3, some ⟨w7.heap.size, 0, none⟩, 3, 3⟩ exS := by
    unfold Rws.val stv
    rfl
  replace hst := Lib.hid hst
  replace hcF := Lib.hid hcF
  replace hpF := Lib.hid hpF
  clear rc rp ok hc7 hc4 b9 bz b7 hc9
  refine bodyPost_ret (v := .agg #[.int .i64 0, .int .i64 0, .int .i64 0, .slice none 0 0, .slice (some ⟨w3.heap.size, 0, none⟩) 3 3, .slice (some ⟨w7.heap.size, 0, none⟩) 3 3]) ?_ rfl ?_
  · simp [results, Tryz.results21, go_sem, k0, k1, k2, k3, k4, k5]
  · exact ⟨some ⟨w3.heap.size, 0, none⟩, 3, some ⟨w7.heap.size, 0, none⟩, 3, by rw [hval], hst.out, hF⟩
end Go.Proofs.YtmclniekloljcaaGreatDoor
