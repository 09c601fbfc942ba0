/-
  The contract of the law's awake of chapter 24: the example is as it is told.
-/
import Derived.Test.YtmclniekloljcaaGreatDoorMarkF
import Derived.Test.YtmclniekloljcaaGreatDoorKrip
namespace Go.Proofs.YtmclniekloljcaaGreatDoor
open Go.RowKit
attribute [local go_sem ↓] Go.wp_at_zero Go.wp_at_succ

theorem eqL_same {α : Type} [DecidableEq α] (l : List α) : eqL l l = true := by simp [eqL]
theorem la_size : la.size ≤ maxLen := by rw [show la.size = 32 by decide +kernel]; decide

set_option maxHeartbeats 8000000 in
set_option maxRecDepth 100000 in
theorem law24_awake (w : World) : Calls Tryz.prog 7 #[] w fun e w' => e = .returned (.bool true) ∧ Below w.heap.size w w' := by
  go_enter Tryz.func7, Tryz.ntmps7
  go_wp2_with fail
  refine (law24_example w).mono ?_
  rintro e w1 ⟨X2, x2, X3, x3, rfl, hst, hb1⟩
  go_wp2_with fail
  refine (law24_sign 97 w1).mono ?_
  rintro e w2 ⟨rfl, hb2⟩
  go_wp2_with fail
  have hL : StrsAt (w2.alloc (.cells #[.string (letterRoot 97)] 9)) (w2.alloc (.cells #[.string (letterRoot 97)] 9)).heap.size (some ⟨w2.heap.size, 0, none⟩) 1 [la] := row1 (heap_alloc_new w2 _)
  have hf2 : Below w2.heap.size w2 (w2.alloc (.cells #[.string (letterRoot 97)] 9)) := (Below.refl _ _).alloc (Nat.le_refl _) _
  generalize w2.alloc (.cells #[.string (letterRoot 97)] 9) = wL at hL hf2 ⊢
  have hm := mark_Of _ exS (some ⟨w2.heap.size, 0, none⟩) 1 1 [la] wL (hst.to (hb2.trans (hf2.mono hb2.size))) hL (by intro x hx; simp at hx; subst hx; exact la_size) (by omega)
  rw [mark_ex] at hm
  refine hm.mono ?_
  rintro e w3 ⟨v0, v1, v2, v3, v4, rfl, fv, hb3⟩
  have hbw : Below w.heap.size w w3 := (hb1.trans ((hb2.trans (hf2.mono hb2.size)).mono hb1.size)).trans (hb3.mono (Nat.le_trans hb1.size (Nat.le_trans hb2.size hf2.size)))
  clear hm hL hst hf2 hb1 hb2 hb3
  obtain ⟨A0, n0, c0, rfl⟩ := Owns.form3 (fv.own 0 _ _ rfl rfl)
  have r0 := (fv.own 0 _ _ rfl rfl).row strCell_len
  obtain rfl : n0 = 1 := r0.1.symm
  obtain ⟨A1, n1, c1, rfl⟩ := Owns.form3 (fv.own 1 _ _ rfl rfl)
  have r1 := (fv.own 1 _ _ rfl rfl).row strCell_len
  obtain rfl : n1 = 2 := r1.1.symm
  obtain ⟨A2, n2, c2, rfl⟩ := Owns.form3 (fv.own 2 _ _ rfl rfl)
  have r2 := (fv.own 2 _ _ rfl rfl).row strCell_len
  obtain rfl : n2 = 1 := r2.1.symm
  obtain ⟨A3, n3, c3, rfl⟩ := Owns.form3 (fv.own 3 _ _ rfl rfl)
  have r3 := (fv.own 3 _ _ rfl rfl).row strCell_len
  obtain rfl : n3 = 1 := r3.1.symm
  obtain ⟨A4, n4, c4, rfl⟩ := Owns.form3 (fv.own 4 _ _ rfl rfl)
  have r4 := (fv.own 4 _ _ rfl rfl).row strCell_len
  obtain rfl : n4 = 1 := r4.1.symm
  go_upto_region 2 with fail
  have hf4 : Below w3.heap.size w3 (w3.alloc (.cells #[.slice A0 1 c0, .slice A1 2 c1, .slice A2 1 c2, .slice A3 1 c3, .slice A4 1 c4] 31)) := (Below.refl _ _).alloc (Nat.le_refl _) _
  have bx := SpBox.new 31 w3 (.slice A0 1 c0) (.slice A1 2 c1) (.slice A2 1 c2) (.slice A3 1 c3) (.slice A4 1 c4)
  generalize w3.alloc (.cells #[.slice A0 1 c0, .slice A1 2 c1, .slice A2 1 c2, .slice A3 1 c3, .slice A4 1 c4] 31) = w4 at hf4 bx ⊢
  replace r0 := Lib.hid (r0.to hf4)
  replace r1 := Lib.hid (r1.to hf4)
  replace r2 := Lib.hid (r2.to hf4)
  replace r3 := Lib.hid (r3.to hf4)
  replace r4 := Lib.hid (r4.to hf4)
  obtain ⟨y0, y1, y2, y3, y4⟩ := bx.cells
  have ly := bx.lt
  have hb4 := hbw.trans (hf4.mono hbw.size)
  clear fv bx
  refine region_krip (fun W : World => Below w4.heap.size w4 W) (by kernel_rfl) ((Below.refl _ _).drew) ?_
  (refine kF.takeL (i := 0) (v := ?_) rfl (by kernel_rfl) (fun _ _ _ h => h) (Or.inl ⟨by rfl, ?_⟩) ?_
   rotate_left
   · (intro wS hSw; (try dsimp only at hSw); have hcS := fun b o (h : b < w4.heap.size) => hSw.cell (p := ⟨b, o, none⟩) h; go_simp; (try with_reducible rfl))
   try simp only [Act.put, List.setIfInBounds_toArray, List.set_cons_zero, List.set_cons_succ])
  (refine kF.takeL (i := 1) (v := ?_) rfl (by kernel_rfl) (fun _ _ _ h => h) (Or.inl ⟨by rfl, ?_⟩) ?_
   rotate_left
   · (intro wS hSw; (try dsimp only at hSw); have hcS := fun b o (h : b < w4.heap.size) => hSw.cell (p := ⟨b, o, none⟩) h; go_simp; (try with_reducible rfl))
   try simp only [Act.put, List.setIfInBounds_toArray, List.set_cons_zero, List.set_cons_succ])
  (refine kF.takeL (i := 2) (v := ?_) rfl (by kernel_rfl) (fun _ _ _ h => h) (Or.inl ⟨by rfl, ?_⟩) ?_
   rotate_left
   · (intro wS hSw; (try dsimp only at hSw); have hcS := fun b o (h : b < w4.heap.size) => hSw.cell (p := ⟨b, o, none⟩) h; go_simp; (try with_reducible rfl))
   try simp only [Act.put, List.setIfInBounds_toArray, List.set_cons_zero, List.set_cons_succ])
  (refine kF.takeL (i := 3) (v := ?_) rfl (by kernel_rfl) (fun _ _ _ h => h) (Or.inl ⟨by rfl, ?_⟩) ?_
   rotate_left
   · (intro wS hSw; (try dsimp only at hSw); have hcS := fun b o (h : b < w4.heap.size) => hSw.cell (p := ⟨b, o, none⟩) h; go_simp; (try with_reducible rfl))
   try simp only [Act.put, List.setIfInBounds_toArray, List.set_cons_zero, List.set_cons_succ])
  (refine kF.takeL (i := 4) (v := ?_) rfl (by kernel_rfl) (fun _ _ _ h => h) (Or.inl ⟨by rfl, ?_⟩) ?_
   rotate_left
   · (intro wS hSw; (try dsimp only at hSw); have hcS := fun b o (h : b < w4.heap.size) => hSw.cell (p := ⟨b, o, none⟩) h; go_simp; (try with_reducible rfl))
   try simp only [Act.put, List.setIfInBounds_toArray, List.set_cons_zero, List.set_cons_succ])
  (refine kF.lastL (j := 5) rfl (by kernel_rfl) (fun _ _ _ _ _ => Iff.rfl) (fun _ _ h1 h2 => below_S (Nat.le_refl _) h1 h2) (fun hSk K hK => ?_)
   (go_simp; refine (law24_sign 97 _).mono ?_; rintro e m5 ⟨rfl, hb5⟩)
   refine hK.out _ _ (below_S (Nat.le_refl _) hSk hb5) ?_
   clear hK K
   try simp only [Act.put, List.setIfInBounds_toArray, List.set_cons_zero, List.set_cons_succ])
  (refine kF.newL (i := 6) (fun b => .slice (some ⟨b, 0, none⟩) 1 1) (.cells #[.string (letterRoot 97)] 9) rfl (by kernel_rfl) (by rfl) ?_ ?_
   · (intro wS; go_simp; (try with_reducible rfl)))
  (refine kF.settleL (by kernel_rfl) (fun _ _ _ _ _ => Iff.rfl) (fun _ _ h1 h2 => below_S (Nat.le_refl _) h1 h2) (fun u6 hbu6 hSu6 v hv => ?_)
   obtain ⟨bu6, hBu6, rfl, hxu6⟩ := hv
   try simp only [Act.put, List.setIfInBounds_toArray, List.set_cons_zero, List.set_cons_succ])
  (refine kF.lastL (j := 7) rfl (by kernel_rfl) (fun _ _ _ _ _ => Iff.rfl) (fun _ _ h1 h2 => below_S (Nat.le_refl _) h1 h2) (fun hSk K hK => ?_)
   (go_simp; refine (ref24_Texts A0 (some ⟨bu6, 0, none⟩) 1 1 c0 1 [la] [la] _ (r0.out.to hSk) (row1 hxu6)).mono ?_; rw [eqL_same]; rintro e m7 ⟨rfl, hb7⟩)
   refine hK.out _ _ (below_S (Nat.le_refl _) hSk hb7) ?_
   clear hK K
   try simp only [Act.put, List.setIfInBounds_toArray, List.set_cons_zero, List.set_cons_succ])
  (refine kF.takeL (i := 8) (v := ?_) rfl (by kernel_rfl) (fun _ _ _ h => h) (Or.inl ⟨by rfl, ?_⟩) ?_
   rotate_left
   · (intro wS hSw; (try dsimp only at hSw); have hcS := fun b o (h : b < w4.heap.size) => hSw.cell (p := ⟨b, o, none⟩) h; go_simp; (try with_reducible rfl))
   try simp only [Act.put, List.setIfInBounds_toArray, List.set_cons_zero, List.set_cons_succ])
  (refine kF.takeL (i := 9) (v := ?_) rfl (by kernel_rfl) (fun _ _ _ h => h) (Or.inl ⟨by rfl, ?_⟩) ?_
   rotate_left
   · (intro wS hSw; (try dsimp only at hSw); have hcS := fun b o (h : b < w4.heap.size) => hSw.cell (p := ⟨b, o, none⟩) h; go_simp; (try with_reducible rfl))
   try simp only [Act.put, List.setIfInBounds_toArray, List.set_cons_zero, List.set_cons_succ])
  (refine kF.takeL (i := 10) (v := ?_) rfl (by kernel_rfl) (fun _ _ _ h => h) (Or.inl ⟨by rfl, ?_⟩) ?_
   rotate_left
   · (intro wS hSw; (try dsimp only at hSw); have hcS := fun b o (h : b < w4.heap.size) => hSw.cell (p := ⟨b, o, none⟩) h; go_simp; (try with_reducible rfl))
   try simp only [Act.put, List.setIfInBounds_toArray, List.set_cons_zero, List.set_cons_succ])
  (refine kF.takeL (i := 11) (v := ?_) rfl (by kernel_rfl) (fun _ _ _ h => h) (Or.inl ⟨by rfl, ?_⟩) ?_
   rotate_left
   · (intro wS hSw; (try dsimp only at hSw); have hcS := fun b o (h : b < w4.heap.size) => hSw.cell (p := ⟨b, o, none⟩) h; go_simp; (try with_reducible rfl))
   try simp only [Act.put, List.setIfInBounds_toArray, List.set_cons_zero, List.set_cons_succ])
  (refine kF.lastL (j := 12) rfl (by kernel_rfl) (fun _ _ _ _ _ => Iff.rfl) (fun _ _ h1 h2 => below_S (Nat.le_refl _) h1 h2) (fun hSk K hK => ?_)
   (go_simp; refine (law24_sign 98 _).mono ?_; rintro e m12 ⟨rfl, hb12⟩)
   refine hK.out _ _ (below_S (Nat.le_refl _) hSk hb12) ?_
   clear hK K
   try simp only [Act.put, List.setIfInBounds_toArray, List.set_cons_zero, List.set_cons_succ])
  (refine kF.lastL (j := 13) rfl (by kernel_rfl) (fun _ _ _ _ _ => Iff.rfl) (fun _ _ h1 h2 => below_S (Nat.le_refl _) h1 h2) (fun hSk K hK => ?_)
   (go_simp; refine (law24_sign 99 _).mono ?_; rintro e m13 ⟨rfl, hb13⟩)
   refine hK.out _ _ (below_S (Nat.le_refl _) hSk hb13) ?_
   clear hK K
   try simp only [Act.put, List.setIfInBounds_toArray, List.set_cons_zero, List.set_cons_succ])
  (refine kF.newL (i := 14) (fun b => .slice (some ⟨b, 0, none⟩) 2 2) (.cells #[.string (letterRoot 98), .string (letterRoot 99)] 9) rfl (by kernel_rfl) (by rfl) ?_ ?_
   · (intro wS; go_simp; (try with_reducible rfl)))
  (refine kF.settleL (by kernel_rfl) (fun _ _ _ _ _ => Iff.rfl) (fun _ _ h1 h2 => below_S (Nat.le_refl _) h1 h2) (fun u14 hbu14 hSu14 v hv => ?_)
   obtain ⟨bu14, hBu14, rfl, hxu14⟩ := hv
   try simp only [Act.put, List.setIfInBounds_toArray, List.set_cons_zero, List.set_cons_succ])
  (refine kF.lastL (j := 15) rfl (by kernel_rfl) (fun _ _ _ _ _ => Iff.rfl) (fun _ _ h1 h2 => below_S (Nat.le_refl _) h1 h2) (fun hSk K hK => ?_)
   (go_simp; refine (ref24_Texts A1 (some ⟨bu14, 0, none⟩) 2 2 c1 2 [lb, lc] [lb, lc] _ (r1.out.to hSk) (row2 hxu14)).mono ?_; rw [eqL_same]; rintro e m15 ⟨rfl, hb15⟩)
   refine hK.out _ _ (below_S (Nat.le_refl _) hSk hb15) ?_
   clear hK K
   try simp only [Act.put, List.setIfInBounds_toArray, List.set_cons_zero, List.set_cons_succ])
  (refine kF.takeL (i := 16) (v := ?_) rfl (by kernel_rfl) (fun _ _ _ h => h) (Or.inl ⟨by rfl, ?_⟩) ?_
   rotate_left
   · (intro wS hSw; (try dsimp only at hSw); have hcS := fun b o (h : b < w4.heap.size) => hSw.cell (p := ⟨b, o, none⟩) h; go_simp; (try with_reducible rfl))
   try simp only [Act.put, List.setIfInBounds_toArray, List.set_cons_zero, List.set_cons_succ])
  (refine kF.takeL (i := 17) (v := ?_) rfl (by kernel_rfl) (fun _ _ _ h => h) (Or.inl ⟨by rfl, ?_⟩) ?_
   rotate_left
   · (intro wS hSw; (try dsimp only at hSw); have hcS := fun b o (h : b < w4.heap.size) => hSw.cell (p := ⟨b, o, none⟩) h; go_simp; (try with_reducible rfl))
   try simp only [Act.put, List.setIfInBounds_toArray, List.set_cons_zero, List.set_cons_succ])
  (refine kF.takeL (i := 18) (v := ?_) rfl (by kernel_rfl) (fun _ _ _ h => h) (Or.inl ⟨by rfl, ?_⟩) ?_
   rotate_left
   · (intro wS hSw; (try dsimp only at hSw); have hcS := fun b o (h : b < w4.heap.size) => hSw.cell (p := ⟨b, o, none⟩) h; go_simp; (try with_reducible rfl))
   try simp only [Act.put, List.setIfInBounds_toArray, List.set_cons_zero, List.set_cons_succ])
  (refine kF.takeL (i := 19) (v := ?_) rfl (by kernel_rfl) (fun _ _ _ h => h) (Or.inl ⟨by rfl, ?_⟩) ?_
   rotate_left
   · (intro wS hSw; (try dsimp only at hSw); have hcS := fun b o (h : b < w4.heap.size) => hSw.cell (p := ⟨b, o, none⟩) h; go_simp; (try with_reducible rfl))
   try simp only [Act.put, List.setIfInBounds_toArray, List.set_cons_zero, List.set_cons_succ])
  (refine kF.lastL (j := 20) rfl (by kernel_rfl) (fun _ _ _ _ _ => Iff.rfl) (fun _ _ h1 h2 => below_S (Nat.le_refl _) h1 h2) (fun hSk K hK => ?_)
   (go_simp; refine (law24_sign 112 _).mono ?_; rintro e m20 ⟨rfl, hb20⟩)
   refine hK.out _ _ (below_S (Nat.le_refl _) hSk hb20) ?_
   clear hK K
   try simp only [Act.put, List.setIfInBounds_toArray, List.set_cons_zero, List.set_cons_succ])
  (refine kF.newL (i := 21) (fun b => .slice (some ⟨b, 0, none⟩) 1 1) (.cells #[.string (letterRoot 112)] 9) rfl (by kernel_rfl) (by rfl) ?_ ?_
   · (intro wS; go_simp; (try with_reducible rfl)))
  (refine kF.settleL (by kernel_rfl) (fun _ _ _ _ _ => Iff.rfl) (fun _ _ h1 h2 => below_S (Nat.le_refl _) h1 h2) (fun u21 hbu21 hSu21 v hv => ?_)
   obtain ⟨bu21, hBu21, rfl, hxu21⟩ := hv
   try simp only [Act.put, List.setIfInBounds_toArray, List.set_cons_zero, List.set_cons_succ])
  (refine kF.lastL (j := 22) rfl (by kernel_rfl) (fun _ _ _ _ _ => Iff.rfl) (fun _ _ h1 h2 => below_S (Nat.le_refl _) h1 h2) (fun hSk K hK => ?_)
   (go_simp; refine (ref24_Texts A2 (some ⟨bu21, 0, none⟩) 1 1 c2 1 [lp] [lp] _ (r2.out.to hSk) (row1 hxu21)).mono ?_; rw [eqL_same]; rintro e m22 ⟨rfl, hb22⟩)
   refine hK.out _ _ (below_S (Nat.le_refl _) hSk hb22) ?_
   clear hK K
   try simp only [Act.put, List.setIfInBounds_toArray, List.set_cons_zero, List.set_cons_succ])
  (refine kF.takeL (i := 23) (v := ?_) rfl (by kernel_rfl) (fun _ _ _ h => h) (Or.inl ⟨by rfl, ?_⟩) ?_
   rotate_left
   · (intro wS hSw; (try dsimp only at hSw); have hcS := fun b o (h : b < w4.heap.size) => hSw.cell (p := ⟨b, o, none⟩) h; go_simp; (try with_reducible rfl))
   try simp only [Act.put, List.setIfInBounds_toArray, List.set_cons_zero, List.set_cons_succ])
  (refine kF.takeL (i := 24) (v := ?_) rfl (by kernel_rfl) (fun _ _ _ h => h) (Or.inl ⟨by rfl, ?_⟩) ?_
   rotate_left
   · (intro wS hSw; (try dsimp only at hSw); have hcS := fun b o (h : b < w4.heap.size) => hSw.cell (p := ⟨b, o, none⟩) h; go_simp; (try with_reducible rfl))
   try simp only [Act.put, List.setIfInBounds_toArray, List.set_cons_zero, List.set_cons_succ])
  (refine kF.takeL (i := 25) (v := ?_) rfl (by kernel_rfl) (fun _ _ _ h => h) (Or.inl ⟨by rfl, ?_⟩) ?_
   rotate_left
   · (intro wS hSw; (try dsimp only at hSw); have hcS := fun b o (h : b < w4.heap.size) => hSw.cell (p := ⟨b, o, none⟩) h; go_simp; (try with_reducible rfl))
   try simp only [Act.put, List.setIfInBounds_toArray, List.set_cons_zero, List.set_cons_succ])
  (refine kF.takeL (i := 26) (v := ?_) rfl (by kernel_rfl) (fun _ _ _ h => h) (Or.inl ⟨by rfl, ?_⟩) ?_
   rotate_left
   · (intro wS hSw; (try dsimp only at hSw); have hcS := fun b o (h : b < w4.heap.size) => hSw.cell (p := ⟨b, o, none⟩) h; go_simp; (try with_reducible rfl))
   try simp only [Act.put, List.setIfInBounds_toArray, List.set_cons_zero, List.set_cons_succ])
  (refine kF.lastL (j := 27) rfl (by kernel_rfl) (fun _ _ _ _ _ => Iff.rfl) (fun _ _ h1 h2 => below_S (Nat.le_refl _) h1 h2) (fun hSk K hK => ?_)
   (go_simp; refine (law24_sign 113 _).mono ?_; rintro e m27 ⟨rfl, hb27⟩)
   refine hK.out _ _ (below_S (Nat.le_refl _) hSk hb27) ?_
   clear hK K
   try simp only [Act.put, List.setIfInBounds_toArray, List.set_cons_zero, List.set_cons_succ])
  (refine kF.newL (i := 28) (fun b => .slice (some ⟨b, 0, none⟩) 1 1) (.cells #[.string (letterRoot 113)] 9) rfl (by kernel_rfl) (by rfl) ?_ ?_
   · (intro wS; go_simp; (try with_reducible rfl)))
  (refine kF.settleL (by kernel_rfl) (fun _ _ _ _ _ => Iff.rfl) (fun _ _ h1 h2 => below_S (Nat.le_refl _) h1 h2) (fun u28 hbu28 hSu28 v hv => ?_)
   obtain ⟨bu28, hBu28, rfl, hxu28⟩ := hv
   try simp only [Act.put, List.setIfInBounds_toArray, List.set_cons_zero, List.set_cons_succ])
  (refine kF.lastL (j := 29) rfl (by kernel_rfl) (fun _ _ _ _ _ => Iff.rfl) (fun _ _ h1 h2 => below_S (Nat.le_refl _) h1 h2) (fun hSk K hK => ?_)
   (go_simp; refine (ref24_Texts A3 (some ⟨bu28, 0, none⟩) 1 1 c3 1 [lq] [lq] _ (r3.out.to hSk) (row1 hxu28)).mono ?_; rw [eqL_same]; rintro e m29 ⟨rfl, hb29⟩)
   refine hK.out _ _ (below_S (Nat.le_refl _) hSk hb29) ?_
   clear hK K
   try simp only [Act.put, List.setIfInBounds_toArray, List.set_cons_zero, List.set_cons_succ])
  (refine kF.takeL (i := 30) (v := ?_) rfl (by kernel_rfl) (fun _ _ _ h => h) (Or.inl ⟨by rfl, ?_⟩) ?_
   rotate_left
   · (intro wS hSw; (try dsimp only at hSw); have hcS := fun b o (h : b < w4.heap.size) => hSw.cell (p := ⟨b, o, none⟩) h; go_simp; (try with_reducible rfl))
   try simp only [Act.put, List.setIfInBounds_toArray, List.set_cons_zero, List.set_cons_succ])
  (refine kF.takeL (i := 31) (v := ?_) rfl (by kernel_rfl) (fun _ _ _ h => h) (Or.inl ⟨by rfl, ?_⟩) ?_
   rotate_left
   · (intro wS hSw; (try dsimp only at hSw); have hcS := fun b o (h : b < w4.heap.size) => hSw.cell (p := ⟨b, o, none⟩) h; go_simp; (try with_reducible rfl))
   try simp only [Act.put, List.setIfInBounds_toArray, List.set_cons_zero, List.set_cons_succ])
  (refine kF.takeL (i := 32) (v := ?_) rfl (by kernel_rfl) (fun _ _ _ h => h) (Or.inl ⟨by rfl, ?_⟩) ?_
   rotate_left
   · (intro wS hSw; (try dsimp only at hSw); have hcS := fun b o (h : b < w4.heap.size) => hSw.cell (p := ⟨b, o, none⟩) h; go_simp; (try with_reducible rfl))
   try simp only [Act.put, List.setIfInBounds_toArray, List.set_cons_zero, List.set_cons_succ])
  (refine kF.takeL (i := 33) (v := ?_) rfl (by kernel_rfl) (fun _ _ _ h => h) (Or.inl ⟨by rfl, ?_⟩) ?_
   rotate_left
   · (intro wS hSw; (try dsimp only at hSw); have hcS := fun b o (h : b < w4.heap.size) => hSw.cell (p := ⟨b, o, none⟩) h; go_simp; (try with_reducible rfl))
   try simp only [Act.put, List.setIfInBounds_toArray, List.set_cons_zero, List.set_cons_succ])
  (refine kF.lastL (j := 34) rfl (by kernel_rfl) (fun _ _ _ _ _ => Iff.rfl) (fun _ _ h1 h2 => below_S (Nat.le_refl _) h1 h2) (fun hSk K hK => ?_)
   (go_simp; refine (law24_sign 97 _).mono ?_; rintro e m34 ⟨rfl, hb34⟩)
   refine hK.out _ _ (below_S (Nat.le_refl _) hSk hb34) ?_
   clear hK K
   try simp only [Act.put, List.setIfInBounds_toArray, List.set_cons_zero, List.set_cons_succ])
  (refine kF.newL (i := 35) (fun b => .slice (some ⟨b, 0, none⟩) 1 1) (.cells #[.string (letterRoot 97)] 9) rfl (by kernel_rfl) (by rfl) ?_ ?_
   · (intro wS; go_simp; (try with_reducible rfl)))
  (refine kF.settleL (by kernel_rfl) (fun _ _ _ _ _ => Iff.rfl) (fun _ _ h1 h2 => below_S (Nat.le_refl _) h1 h2) (fun u35 hbu35 hSu35 v hv => ?_)
   obtain ⟨bu35, hBu35, rfl, hxu35⟩ := hv
   try simp only [Act.put, List.setIfInBounds_toArray, List.set_cons_zero, List.set_cons_succ])
  (refine kF.lastL (j := 36) rfl (by kernel_rfl) (fun _ _ _ _ _ => Iff.rfl) (fun _ _ h1 h2 => below_S (Nat.le_refl _) h1 h2) (fun hSk K hK => ?_)
   (go_simp; refine (ref24_Texts A4 (some ⟨bu35, 0, none⟩) 1 1 c4 1 [la] [la] _ (r4.out.to hSk) (row1 hxu35)).mono ?_; rw [eqL_same]; rintro e m36 ⟨rfl, hb36⟩; have hSe := hSk.trans (hb36.mono hSk.size))
   refine hK.out _ _ (below_S (Nat.le_refl _) hSk hb36) ?_
   clear hK K
   try simp only [Act.put, List.setIfInBounds_toArray, List.set_cons_zero, List.set_cons_succ])
  (refine kF.takeL (i := 37) (v := ?_) rfl (by kernel_rfl) (fun _ _ _ h => h) (Or.inl ⟨by rfl, ?_⟩) ?_
   rotate_left
   · (intro wS hSw; (try dsimp only at hSw); have hcS := fun b o (h : b < w4.heap.size) => hSw.cell (p := ⟨b, o, none⟩) h; go_simp; (try with_reducible rfl))
   try simp only [Act.put, List.setIfInBounds_toArray, List.set_cons_zero, List.set_cons_succ])
  (refine kF.takeL (i := 38) (v := ?_) rfl (by kernel_rfl) (fun _ _ _ h => h) (Or.inl ⟨by rfl, ?_⟩) ?_
   rotate_left
   · (intro wS hSw; (try dsimp only at hSw); have hcS := fun b o (h : b < w4.heap.size) => hSw.cell (p := ⟨b, o, none⟩) h; go_simp; (try with_reducible rfl))
   try simp only [Act.put, List.setIfInBounds_toArray, List.set_cons_zero, List.set_cons_succ])
  refine kF.done (by kernel_rfl) ?_
  go_wp2_with fail
  go_ret
  exact ⟨rfl, hb4.trans (hSe.mono hb4.size)⟩
end Go.Proofs.YtmclniekloljcaaGreatDoor
