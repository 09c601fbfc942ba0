/-
  The examples of chapter 23: the contracts of d, bare, refused and works.
-/
import Derived.Test.YtbfephekkfieaaaParse
import Derived.Test.YtbfephekkfieaaaLetters
import Derived.Test.YtbfephekkfieaaaStBox
namespace Go.Proofs.Ytbfephekkfieaaa
open Go.RowKit
attribute [local go_sem ↓] Go.wp_at_zero Go.wp_at_succ

set_option maxHeartbeats 1000000 in
theorem law23_d (c : UInt8) (w : World) :
    Calls Try.prog 7 #[.int .u8 c.toNat] w fun e w' => e = .returned (.string (letterRoot c)) ∧ Below w.heap.size w w' := by
  have hmk := make32
  go_enter Try.func7, Try.ntmps7
  go_wp2_with fail
  go_loopw [4] (fun i wr => ∃ k : Nat, k ≤ 32 ∧ i = .int .i64 k ∧ Owns 1 byteCell 5 wr w.heap.size (.slice (some ⟨w.heap.size, 0, none⟩) 32 32) (letters k c) ∧ Below w.heap.size w wr) (fun i _ => 32 - (intOf i).toNat)
  case atStart =>
    refine ⟨0, by omega, rfl, ?_, (by repeat (first | exact Below.refl _ _ | assumption | refine Below.drew ?_ | refine below_drewN ?_ _ | refine Below.alloc ?_ (by first | omega | (simp; try omega)) _ | refine Below.setCell ?_ (by first | omega | (simp; try omega)) _ | (refine Below.trans ?_ (Below.mono (by assumption) (by first | omega | (simp; try omega))))))⟩
    exact ⟨rfl, .inr ⟨w.heap.size, 32, zcells, rfl, Nat.le_refl _, heap_alloc_new w _, Nat.le_refl _, by simp [maxLen], rfl, rfl⟩⟩
  case round =>
    obtain ⟨k, hk, rfl, ho, hbw⟩ := hrel
    by_cases hlt : k < 32
    · have ho' := ho
      unfold Owns at ho'
      rw [letters_len hk] at ho'
      have hc := ho'.cellAt k (by omega)
      obtain ⟨x, hx⟩ := getElem_some (l := (letters k c).flatMap byteCell) (i := k) (by rw [flat_len byteCell_len, letters_len hk]; omega)
      rw [hx] at hc
      have hf := ho'.frozenAt k
      have hst := ho'.stored k (.int .u8 c.toNat)
      rw [flat_set, letters_set hlt] at hst
      replace hst := Lib.hid hst
      replace ho := Lib.hid ho
      replace ho' := Lib.hid ho'
      clear hx
      go_wp2
      go_roundw
      case rel => exact ⟨k + 1, by omega, by go_num, by unfold Owns; rw [letters_len (by omega)]; exact hst.out.1, (by repeat (first | exact Below.refl _ _ | assumption | refine Below.drew ?_ | refine below_drewN ?_ _ | refine Below.alloc ?_ (by first | omega | (simp; try omega)) _ | refine Below.setCell ?_ (by first | omega | (simp; try omega)) _ | (refine Below.trans ?_ (Below.mono (by assumption) (by first | omega | (simp; try omega))))))⟩
      case measure => simp [intOf]; omega
    · obtain rfl : k = 32 := by omega
      have hcv := run_bytes_str (c := 32) (ho.row byteCell_len)
      rw [show str (letters 32 c) = letterRoot c by simp [letters, letterRoot]] at hcv
      replace ho := Lib.hid ho
      go_wp2
      go_ret
      exact ⟨rfl, (by repeat (first | exact Below.refl _ _ | assumption | refine Below.drew ?_ | refine below_drewN ?_ _ | refine Below.alloc ?_ (by first | omega | (simp; try omega)) _ | refine Below.setCell ?_ (by first | omega | (simp; try omega)) _ | (refine Below.trans ?_ (Below.mono (by assumption) (by first | omega | (simp; try omega))))))⟩

theorem law23_bare (next : Int) (w : World) :
    Calls Try.prog 6 #[.int .i64 next] w fun e w' => e = .returned (.agg #[.int .i64 2, .int .i64 3, .int .i64 next, .slice none 0 0, .slice none 0 0, .slice none 0 0]) ∧ Below w.heap.size w w' := by
  go_enter Try.func6, Try.ntmps6
  go_wp2
  exact bodyPost_ret (v := .agg #[.int .i64 2, .int .i64 3, .int .i64 next, .slice none 0 0, .slice none 0 0, .slice none 0 0]) (by simp [results, Try.results6, go_sem]) rfl ⟨rfl, (by repeat (first | exact Below.refl _ _ | assumption | refine Below.drew ?_ | refine below_drewN ?_ _ | refine Below.alloc ?_ (by first | omega | (simp; try omega)) _ | refine Below.setCell ?_ (by first | omega | (simp; try omega)) _ | (refine Below.trans ?_ (Below.mono (by assumption) (by first | omega | (simp; try omega))))))⟩

set_option maxHeartbeats 1000000 in
theorem law23_refused (v : Rws) (s : St) (w : World) (h : StAt w w.heap.size v s) :
    Calls Try.prog 12 #[v.val s] w fun e w' => e = .returned (.bool (!mayState s)) ∧ Below w.heap.size w w' := by
  have hM := Lib.hid (fun W (hb : Below w.heap.size w W) => root_Make v s W (h.to hb))
  have hY := Lib.hid (fun W (hb : Below w.heap.size w W) => root_May v s W (h.to hb))
  clear h
  by_cases hs : mayState s = true
  · have hlen := stB_len hs
    have hres : makeRes s = (str (stB s), 0) := by unfold makeRes; rw [if_pos hs]
    rw [hres] at hM
    rw [hs]
    have hne : ((str (stB s)).toList == (⟨#[]⟩ : ByteArray).toList) = false := str_ne (fun e => by
      have := congrArg ByteArray.size e
      rw [str_size] at this
      have h0 : (⟨#[]⟩ : ByteArray).size = 0 := rfl
      omega)
    have hne2 : (str (stB s)).toList.isEmpty = false := by
      rw [toList_bl, bl_str]
      cases h0 : stB s with
      | nil => rw [h0] at hlen; simp at hlen; omega
      | cons a l => rfl
    clear hlen hres
    replace hs := Lib.hid hs
    obtain ⟨R, hR⟩ : ∃ R, R = str (stB s) := ⟨_, rfl⟩
    rw [← hR] at hM hne hne2
    clear hR
    obtain ⟨k, n, next, sn, cs, ps⟩ := s
    obtain ⟨A1, n1, c1, A2, n2, c2, A3, n3, c3⟩ := v
    unfold Rws.val stv at hM hY ⊢
    dsimp only at hM hY ⊢
    go_enter Try.func12, Try.ntmps12
    go_wp2_with fail
    refine (hM.out _ (by repeat (first | exact Below.refl _ _ | assumption | refine Below.drew ?_ | refine below_drewN ?_ _ | refine Below.alloc ?_ (by first | omega | (simp; try omega)) _ | refine Below.setCell ?_ (by first | omega | (simp; try omega)) _ | (refine Below.trans ?_ (Below.mono (by assumption) (by first | omega | (simp; try omega))))))).mono ?_
    rintro e w1 ⟨rfl, hb1⟩
    go_wp2_with fail
    go_ret
    exact ⟨rfl, (by repeat (first | exact Below.refl _ _ | assumption | refine Below.drew ?_ | refine below_drewN ?_ _ | refine Below.alloc ?_ (by first | omega | (simp; try omega)) _ | refine Below.setCell ?_ (by first | omega | (simp; try omega)) _ | (refine Below.trans ?_ (Below.mono (by assumption) (by first | omega | (simp; try omega))))))⟩
  · replace hs : mayState s = false := by simpa using hs
    have hres : makeRes s = (⟨#[]⟩, 4) := by unfold makeRes; rw [if_neg (by rw [hs]; simp)]
    rw [hres] at hM
    rw [hs] at hY ⊢
    replace hs := Lib.hid hs
    clear hres
    obtain ⟨k, n, next, sn, cs, ps⟩ := s
    obtain ⟨A1, n1, c1, A2, n2, c2, A3, n3, c3⟩ := v
    unfold Rws.val stv at hM hY ⊢
    dsimp only at hM hY ⊢
    go_enter Try.func12, Try.ntmps12
    go_wp2_with fail
    refine (hM.out _ (by repeat (first | exact Below.refl _ _ | assumption | refine Below.drew ?_ | refine below_drewN ?_ _ | refine Below.alloc ?_ (by first | omega | (simp; try omega)) _ | refine Below.setCell ?_ (by first | omega | (simp; try omega)) _ | (refine Below.trans ?_ (Below.mono (by assumption) (by first | omega | (simp; try omega))))))).mono ?_
    rintro e w1 ⟨rfl, hb1⟩
    have hz1 := hb1.size
    simp at hz1
    have e1 : Below (w.heap.size + 1) (w.alloc (stBox k n next A1 n1 c1 A2 n2 c2 A3 n3 c3)) w1 := hb1.mono (by simp)
    have f1 : Below w.heap.size w w1 := (Below.alloc (Below.refl _ _) (by omega) _).trans (e1.mono (by omega))
    obtain ⟨x0, x1, x2, x3, x4, x5⟩ := stBox_cells e1
    go_wp2_with fail
    refine (hY.out _ f1).mono ?_
    rintro e w2 ⟨rfl, hb2⟩
    go_wp2_with fail
    go_ret
    exact ⟨rfl, f1.trans (hb2.mono (by omega))⟩

set_option maxHeartbeats 2000000 in
theorem law23_works (w : World) : Calls Try.prog 5 #[] w fun e w' => e = .returned (.bool true) ∧ Below w.heap.size w w' := by
  have hm1 : makeRes ⟨2, 3, 1, [], [], []⟩ = (⟨#[115, 116, 97, 49, 2, 3, 0, 0, 0, 1, 0, 0, 0]⟩, 0) := by
    have h : mayState ⟨2, 3, 1, [], [], []⟩ = true := by decide
    unfold makeRes
    rw [if_pos h]
    rfl
  have hz : mayState ⟨2, 3, 0, [], [], []⟩ = false := by decide
  have ho : mayState ⟨2, 3, 1, [⟨1, 0, letterRoot 114⟩], [], []⟩ = false := by
    unfold mayState
    simp [lastOf]
  have hA : ∀ (next : Int) (W : World), StAt W W.heap.size ⟨none, 0, 0, none, 0, 0, none, 0, 0⟩ ⟨2, 3, next, [], [], []⟩ := fun next W => ⟨RowAt.none_, RowAt.none_, RowAt.none_, by simp⟩
  have hM := Lib.hid (fun W => root_Make ⟨none, 0, 0, none, 0, 0, none, 0, 0⟩ ⟨2, 3, 1, [], [], []⟩ W (hA 1 W))
  rw [hm1] at hM
  have hF := Lib.hid (fun W => law23_refused ⟨none, 0, 0, none, 0, 0, none, 0, 0⟩ ⟨2, 3, 0, [], [], []⟩ W (hA 0 W))
  rw [hz] at hF
  have hF1 := Lib.hid (fun A c W (h : SnapsAt W W.heap.size A 1 [⟨1, 0, letterRoot 114⟩]) => law23_refused ⟨A, 1, c, none, 0, 0, none, 0, 0⟩ ⟨2, 3, 1, [⟨1, 0, letterRoot 114⟩], [], []⟩ W ⟨h, RowAt.none_, RowAt.none_, by simp⟩)
  rw [ho] at hF1
  unfold Rws.val stv at hM hF hF1
  dsimp only at hM hF hF1
  clear hm1 hz ho hA
  go_enter Try.func5, Try.ntmps5
  go_wp2_with fail
  refine (law23_bare 1 _).mono ?_
  rintro e w1 ⟨rfl, hb1⟩
  have hz1 := hb1.size
  go_wp2_with fail
  refine (hM.out _).mono ?_
  rintro e w2 ⟨rfl, hb2⟩
  have hz2 := hb2.size
  go_wp2_with fail
  refine (law23_bare 1 _).mono ?_
  rintro e w3 ⟨rfl, hb3⟩
  have hz3 := hb3.size
  go_wp2_with fail
  refine (law23_d 114 _).mono ?_
  rintro e w4 ⟨rfl, hb4⟩
  have hz4 := hb4.size
  simp at hz4
  have bx : BoxAt w4 w3.heap.size 2 3 1 (.slice none 0 0) (.slice none 0 0) (.slice none 0 0) := (BoxAt.new w3 _ _ _ _ _ _).below hb4
  obtain ⟨x0, x1, x2, x3, x4, x5⟩ := bx.cells
  have fz := bx.frozen 3
  have hl : w3.heap.size < w4.heap.size := by omega
  replace bx := Lib.hid bx
  go_wp2_with fail
  have hrow : SnapsAt ((w4.setCell ⟨w3.heap.size, 3, none⟩ (.slice (some ⟨w4.heap.size, 0, none⟩) 1 1)).alloc (.cells #[.int .i64 1, .int .i64 0, .string (letterRoot 114)] 33)) (w4.heap.size + 1) (some ⟨w4.heap.size, 0, none⟩) 1 [⟨1, 0, letterRoot 114⟩] := by
    refine ⟨rfl, by omega, fun _ => ⟨_, _, rfl, by omega, fun i x hx j v hv => ?_⟩⟩
    rcases i with _ | i
    · simp at hx
      subst hx
      rcases j with _ | _ | _ | j <;> simp [Snap.cells] at hv <;> subst hv <;> go_simp
    · simp at hx
  have bx5 := (bx.out.set3 (.slice (some ⟨w4.heap.size, 0, none⟩) 1 1)).alloc (.cells #[.int .i64 1, .int .i64 0, .string (letterRoot 114)] 33)
  have b5 : Below w.heap.size w ((w4.setCell ⟨w3.heap.size, 3, none⟩ (.slice (some ⟨w4.heap.size, 0, none⟩) 1 1)).alloc (.cells #[.int .i64 1, .int .i64 0, .string (letterRoot 114)] 33)) := by
    have q1 : Below w.heap.size w w3 := (hb1.trans (hb2.mono (by omega))).trans (hb3.mono (by omega))
    have q2 : Below w.heap.size w w4 := (q1.alloc (by omega) _).trans (hb4.mono (by simp; omega))
    exact (q2.setCell (by show w.heap.size ≤ w3.heap.size; omega) _).alloc (by simp; omega) _
  have z5 : ((w4.setCell ⟨w3.heap.size, 3, none⟩ (.slice (some ⟨w4.heap.size, 0, none⟩) 1 1)).alloc (.cells #[.int .i64 1, .int .i64 0, .string (letterRoot 114)] 33)).heap.size = w4.heap.size + 1 := by simp
  generalize (w4.setCell ⟨w3.heap.size, 3, none⟩ (.slice (some ⟨w4.heap.size, 0, none⟩) 1 1)).alloc (.cells #[.int .i64 1, .int .i64 0, .string (letterRoot 114)] 33) = W5 at hrow bx5 b5 z5 ⊢
  replace hrow := Lib.hid hrow
  replace bx5 := Lib.hid bx5
  clear x0 x1 x2 x3 x4 x5 fz bx
  refine (law23_bare 0 _).mono ?_
  rintro e w6 ⟨rfl, hb6⟩
  have hz6 := hb6.size
  go_wp2_with fail
  refine (hF.out _).mono ?_
  rintro e w7 ⟨rfl, hb7⟩
  have hz7 := hb7.size
  have q7 : Below W5.heap.size W5 w7 := hb6.trans (hb7.mono (by omega))
  obtain ⟨x0, x1, x2, x3, x4, x5⟩ := (bx5.out.below q7).cells
  have hl7 : w3.heap.size < w7.heap.size := by omega
  have hr7 : SnapsAt w7 w7.heap.size (some ⟨w4.heap.size, 0, none⟩) 1 [⟨1, 0, letterRoot 114⟩] := (hrow.out.below (q7.mono (by omega))).more (by omega)
  replace hr7 := Lib.hid hr7
  go_wp2_with fail
  refine (hF1.out _ _ _ hr7.out).mono ?_
  rintro e w8 ⟨rfl, hb8⟩
  go_wp2_with fail
  go_ret
  exact ⟨rfl, b5.trans ((q7.trans (hb8.mono (by omega))).mono (by omega))⟩
end Go.Proofs.Ytbfephekkfieaaa
