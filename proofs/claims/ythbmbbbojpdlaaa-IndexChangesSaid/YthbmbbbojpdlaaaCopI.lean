/-
  The contract of the statements' own copied.
-/
import Derived.Test.YthbmbbbojpdlaaaAddA
import Derived.Laws.MakeOwn
namespace Go.Proofs.Ythbmbbbojpdlaaa
open Go.RowKit
attribute [local go_sem ↓] Go.wp_at_zero Go.wp_at_succ

theorem Elem.run_make {α : Type} (E : Elem α) (w : World) (c : Nat) (hc : c ≤ 1000000000) : (Instr.makeSlice E.S (.int .i64 0) (.int .i64 (c : Int))).run Try.prog w = .ok (.slice (some ⟨w.heap.size, 0, none⟩) 0 c) (w.alloc (.cells (madeCells E.z.cells (c * E.k)) E.T)) := by
  obtain ⟨i, hi, hz, hsz, hby⟩ := infoOf E.info
  have hs := E.small
  have hm : E.bytes * c ≤ 128 * 1000000000 := Nat.mul_le_mul hs hc
  have hbb : (i.bytes : Int) * (c : Int) ≤ 281474976710656 := by
    rw [hby, ← Int.natCast_mul]
    omega
  have h := Go.run_make (P := Try.prog) w E.S E.T i E.z E.und hi hz .i64 .i64 0 (c : Int) (Int.le_refl _) (by omega) hbb (by omega)
  rw [hsz] at h
  simpa using h
theorem Elem.own_made {α : Type} (E : Elem α) (w : World) (c base : Nat) (hc : c ≤ 1000000000) (hb : base ≤ w.heap.size) : E.Own (w.alloc (.cells (madeCells E.z.cells (c * E.k)) E.T)) base (.slice (some ⟨w.heap.size, 0, none⟩) 0 c) [] :=
  World.ownsRow_made w _ c hb (by unfold maxLen; omega) (size_madeCells _ _)
theorem wrap9 {n : Nat} (h : n ≤ 1000000) : IntKind.i64.wrap ((n : Int) + 9) = (n : Int) + 9 := by rw [IntKind.wrap_i64]; omega
theorem make9 {α : Type} (E : Elem α) (n : Nat) (hn : n ≤ 1000000) : Hid (∀ W : World, (Instr.makeSlice E.S (.int .i64 0) (.int .i64 ((n : Int) + 9))).run Try.prog W = .ok (.slice (some ⟨W.heap.size, 0, none⟩) 0 (n + 9)) (W.alloc (.cells (madeCells E.z.cells ((n + 9) * E.k)) E.T))) := fun W => by
  have h := E.run_make W (n + 9) (by omega)
  have e : ((n + 9 : Nat) : Int) = (n : Int) + 9 := by omega
  rw [e] at h
  exact h

set_option maxHeartbeats 2000000 in
set_option maxRecDepth 100000 in
theorem law17_copied (v : Rws) (s : St) (w : World) (h : StAt w w.heap.size v s) (hn1 : v.n1 ≤ 2000) (hn2 : v.n2 ≤ 2000) (hn3 : v.n3 ≤ 2000) :
    Calls Try.prog 39 #[v.val s] w fun e w' => ∃ r : Rws, e = .returned (r.val s) ∧ StAt w' w'.heap.size r s ∧ Below w.heap.size w w' := by
  obtain ⟨k, nn, next, sn, cs, ps⟩ := s
  obtain ⟨A1, n1, c1, A2, n2, c2, A3, n3, c3⟩ := v
  obtain ⟨h1, h2, h3, hok⟩ := h
  dsimp only at h1 h2 h3 hok hn1 hn2 hn3
  unfold Rws.val stv
  dsimp only
  have l1 := Lib.hid h1.1
  have l2 := Lib.hid h2.1
  have l3 := Lib.hid h3.1
  have bx := Lib.hid ((BoxAt.new w k nn next (.slice A1 n1 c1) (.slice A2 n2 c2) (.slice A3 n3 c3)).alloc (.cells #[.int .i64 0, .int .i64 0, .int .i64 0, .slice none 0 0, .slice none 0 0, .slice none 0 0] 28))
  have bz : Hid (BoxAt ((w.alloc (.cells #[.int .i64 k, .int .i64 nn, .int .i64 next, .slice A1 n1 c1, .slice A2 n2 c2, .slice A3 n3 c3] 28)).alloc (.cells #[.int .i64 0, .int .i64 0, .int .i64 0, .slice none 0 0, .slice none 0 0, .slice none 0 0] 28)) (w.heap.size + 1) 0 0 0 (.slice none 0 0) (.slice none 0 0) (.slice none 0 0)) := by
    have := BoxAt.new (w.alloc (.cells #[.int .i64 k, .int .i64 nn, .int .i64 next, .slice A1 n1 c1, .slice A2 n2 c2, .slice A3 n3 c3] 28)) 0 0 0 (.slice none 0 0) (.slice none 0 0) (.slice none 0 0)
    exact Lib.hid (by simpa using this)
  have fb : Below w.heap.size w ((w.alloc (.cells #[.int .i64 k, .int .i64 nn, .int .i64 next, .slice A1 n1 c1, .slice A2 n2 c2, .slice A3 n3 c3] 28)).alloc (.cells #[.int .i64 0, .int .i64 0, .int .i64 0, .slice none 0 0, .slice none 0 0, .slice none 0 0] 28)) := ((Below.refl _ _).alloc (Nat.le_refl _) _).alloc (by simp) _
  have zz : Hid (((w.alloc (.cells #[.int .i64 k, .int .i64 nn, .int .i64 next, .slice A1 n1 c1, .slice A2 n2 c2, .slice A3 n3 c3] 28)).alloc (.cells #[.int .i64 0, .int .i64 0, .int .i64 0, .slice none 0 0, .slice none 0 0, .slice none 0 0] 28)).heap.size = w.heap.size + 2) := by unfold Hid; simp
  replace hok := Lib.hid hok
  go_enter Try.func39, Try.ntmps39
  go_upto_region 1 with fail
  generalize (w.alloc (.cells #[.int .i64 k, .int .i64 nn, .int .i64 next, .slice A1 n1 c1, .slice A2 n2 c2, .slice A3 n3 c3] 28)).alloc (.cells #[.int .i64 0, .int .i64 0, .int .i64 0, .slice none 0 0, .slice none 0 0, .slice none 0 0] 28) = W0 at bx bz fb zz ⊢
  have hz0 : W0.heap.size = w.heap.size + 2 := zz.out
  replace hz0 := Lib.hid hz0
  have hlt0 : w.heap.size + 1 < W0.heap.size := by have := hz0.out; omega
  have hlt9 : w.heap.size < W0.heap.size := by omega
  obtain ⟨x0, x1, x2, x3, x4, x5⟩ := bx.out.cells
  have hr1 := h1.to fb
  go_wp2_with (at_builtin; go_must (refine Elem.wpList_row snapE rfl (.tmp 3) (.tmp 5) rfl W0.heap.size (.slice (some ⟨W0.heap.size, 0, none⟩) 0 0) [] rfl A1 n1 c1 sn rfl (Owns.emptyAt W0 rfl (Nat.le_refl _)) W0.heap.size (RowAt.alloc hr1 (Nat.le_refl _) _) (by simp; omega) (by first | omega | (simp; try omega)) ?_); intro v1 w1 o1 hg1 hat1; rw [List.nil_append] at o1; obtain ⟨B1, q1, rfl⟩ := o1.form; have hb1 : Below W0.heap.size W0 w1 := Below.grownOwn (by repeat (first | exact Below.refl _ _ | assumption | refine Below.drew ?_ | refine below_drewN ?_ _ | refine Below.alloc ?_ (by first | omega | (simp; try omega)) _ | refine Below.setCell ?_ (by first | omega | (simp; try omega)) _ | (refine Below.trans ?_ (Below.mono (by assumption) (by first | omega | (simp; try omega)))))) (Owns.emptyAt (k := snapE.k) (enc := snapE.enc) (T := snapE.T) W0 rfl (Nat.le_refl _)) (Nat.le_refl _) (by first | omega | (simp; try omega)) hg1; have bx1 := bx.out.below hb1; have yf := bx1.frozen 3; have hz1 := hb1.size; have y3 := bx1.cells.2.2.2.1; have hlt1 : w.heap.size < w1.heap.size := by omega)
  have bz1 := Lib.hid (bz.out.below hb1)
  have c1b := (bx1.set3 (.slice B1 sn.length q1))
  have d1b := Lib.hid (bz1.out.setOther (b' := w.heap.size) (o := 3) (.slice B1 sn.length q1) (by omega))
  have p1 := Lib.hid (o1.setOther (b := w.heap.size) (o := 3) (.slice B1 sn.length q1) hlt9)
  have f1 : Below w.heap.size w (w1.setCell ⟨w.heap.size, 3, none⟩ (.slice B1 sn.length q1)) := (fb.trans (hb1.mono (by omega))).setCell (p := ⟨w.heap.size, 3, none⟩) (Nat.le_refl _) _
  have hz1' : Hid ((w1.setCell ⟨w.heap.size, 3, none⟩ (.slice B1 sn.length q1)).heap.size = w1.heap.size) := by simp [Hid]
  generalize hw2 : w1.setCell ⟨w.heap.size, 3, none⟩ (.slice B1 sn.length q1) = w2 at c1b d1b p1 f1 hz1' ⊢
  clear hw2
  have hlt2 : W0.heap.size ≤ w2.heap.size := by have := hz1'.out; omega
  have hmk := make9 strE n2 (by omega)
  have h29 := Lib.hid (wrap9 (n := n2) (by omega))
  refine region_held_tail 8 (fun W : World => W.cell? ⟨w.heap.size, 4, none⟩ = some (.slice A2 n2 c2)) (by kernel_rfl) (by kernel_rfl) ?_
  have hHeld : (fun W : World => W.cell? ⟨w.heap.size, 4, none⟩ = some (.slice A2 n2 c2)) w2.drew := c1b.cells.2.2.2.2.1
  have c2b := Lib.hid (c1b.drew.alloc (.cells (madeCells strE.z.cells ((n2 + 9) * strE.k)) 9))
  (refine HT.takeL (i := 0) (v := ?_) rfl (by kernel_rfl) (fun _ _ _ h => h) (Or.inl ⟨by rfl, ?_⟩) (by assumption) ?_
   rotate_left
   · (intro w hSw; (try dsimp only at hSw); go_simp; (try with_reducible rfl))
   try simp only [Act.put, List.setIfInBounds_toArray, List.set_cons_zero, List.set_cons_succ])
  (refine HT.takeL (i := 1) (v := ?_) rfl (by kernel_rfl) (fun _ _ _ h => h) (Or.inl ⟨by rfl, ?_⟩) (by assumption) ?_
   rotate_left
   · (intro w hSw; (try dsimp only at hSw); go_simp; (try with_reducible rfl))
   try simp only [Act.put, List.setIfInBounds_toArray, List.set_cons_zero, List.set_cons_succ])
  (refine HT.takeL (i := 2) (v := ?_) rfl (by kernel_rfl) (fun _ _ _ h => h) (Or.inl ⟨by rfl, ?_⟩) (by assumption) ?_
   rotate_left
   · (intro w hSw; (try dsimp only at hSw); go_simp; (try with_reducible rfl))
   try simp only [Act.put, List.setIfInBounds_toArray, List.set_cons_zero, List.set_cons_succ])
  (refine HT.takeL (i := 3) (v := .int .i64 ((n2 : Int) + 9)) rfl (by kernel_rfl) (fun _ _ _ h => h) (Or.inl ⟨by rfl, ?_⟩) (by assumption) ?_
   · (intro w hSw; (try dsimp only at hSw); go_simp; (simp only [h29.out]))
   try simp only [Act.put, List.setIfInBounds_toArray, List.set_cons_zero, List.set_cons_succ])
  (refine HT.takeL (i := 5) (v := ?_) rfl (by kernel_rfl) (fun _ _ _ h => h) (Or.inl ⟨by rfl, ?_⟩) (by assumption) ?_
   rotate_left
   · (intro w hSw; (try dsimp only at hSw); go_simp; (try with_reducible rfl))
   try simp only [Act.put, List.setIfInBounds_toArray, List.set_cons_zero, List.set_cons_succ])
  (refine HT.takeL (i := 6) (v := ?_) rfl (by kernel_rfl) (fun _ _ _ h => h) (Or.inl ⟨by rfl, ?_⟩) (by assumption) ?_
   rotate_left
   · (intro w hSw; (try dsimp only at hSw); go_simp; (try with_reducible rfl))
   try simp only [Act.put, List.setIfInBounds_toArray, List.set_cons_zero, List.set_cons_succ])
  (refine HT.onlyL (i := 4) rfl (by kernel_rfl) (fun K hK => ?_)
   (go_simp; rw [show (25 : TypeId) = strE.S from rfl, hmk.out]; go_simp)
   refine hK.out _ _ ?_ (fun hHeld => ?_)
   · (exact c2b.out.cells.2.2.2.2.1)
   clear hK K
   try simp only [Act.put, List.setIfInBounds_toArray, List.set_cons_zero, List.set_cons_succ])
  have hr2 := (((h2.to f1).drew).alloc (Nat.le_refl _) (.cells (madeCells strE.z.cells ((n2 + 9) * strE.k)) 9))
  (refine HT.onlyL (i := 7) rfl (by kernel_rfl) (fun K hK => ?_)
   (refine Elem.step_row strE rfl (.tmp 12) (.tmp 14) rfl w2.heap.size (.slice (some ⟨w2.heap.size, 0, none⟩) 0 (n2 + 9)) [] rfl A2 n2 c2 cs rfl (strE.own_made w2.drew (n2 + 9) _ (by omega) (Nat.le_refl _)) _ hr2 (by simp; omega) (by first | omega | (simp; try omega)) ?_; intro v3 w3 o3 hg3 hat3; rw [List.nil_append] at o3; obtain ⟨B2, q2, rfl⟩ := o3.form; have hb3 : Below w2.heap.size w2 w3 := Below.grownOwn (by repeat (first | exact Below.refl _ _ | assumption | refine Below.drew ?_ | refine below_drewN ?_ _ | refine Below.alloc ?_ (by first | omega | (simp; try omega)) _ | refine Below.setCell ?_ (by first | omega | (simp; try omega)) _ | (refine Below.trans ?_ (Below.mono (by assumption) (by first | omega | (simp; try omega)))))) (strE.own_made w2.drew (n2 + 9) _ (by omega) (Nat.le_refl _)) (Nat.le_refl _) (by first | omega | (simp; try omega)) hg3; have c3b := c1b.below hb3)
   refine hK.out _ _ ?_ (fun hHeld => ?_)
   · (exact c3b.cells.2.2.2.2.1)
   clear hK K
   try simp only [Act.put, List.setIfInBounds_toArray, List.set_cons_zero, List.set_cons_succ])
  refine HT.tail (by kernel_rfl) ?_
  simp only [List.drop_succ_cons, List.drop_zero]
  have hlt3 : w.heap.size < w3.heap.size := by have := hb3.size; omega
  have y4 := c3b.cells.2.2.2.2.1
  have yf4 := c3b.frozen 4
  go_wp2_with fail
  have c4b := c3b.set4 (.slice B2 cs.length q2)
  have d4b := Lib.hid ((d1b.out.below hb3).setOther (b' := w.heap.size) (o := 4) (.slice B2 cs.length q2) (by omega))
  have p4 := Lib.hid ((p1.out.below hb3).setOther (b := w.heap.size) (o := 4) (.slice B2 cs.length q2) hlt9)
  have r4 := Lib.hid (o3.setOther (b := w.heap.size) (o := 4) (.slice B2 cs.length q2) (by omega))
  have f4 : Below w.heap.size w (w3.setCell ⟨w.heap.size, 4, none⟩ (.slice B2 cs.length q2)) := (f1.trans (hb3.mono (by omega))).setCell (p := ⟨w.heap.size, 4, none⟩) (Nat.le_refl _) _
  have hz4' : Hid ((w3.setCell ⟨w.heap.size, 4, none⟩ (.slice B2 cs.length q2)).heap.size = w3.heap.size) := by simp [Hid]
  generalize hw4 : w3.setCell ⟨w.heap.size, 4, none⟩ (.slice B2 cs.length q2) = w4 at c4b d4b p4 r4 f4 hz4' ⊢
  clear hw4 y4 yf4 hHeld hg3 hat3 hmk h29
  have hlt4 : w3.heap.size ≤ w4.heap.size := by have := hz4'.out; omega
  have hlt5 : w2.heap.size ≤ w3.heap.size := hb3.size
  have hmk := make9 placeE n3 (by omega)
  have h29 := Lib.hid (wrap9 (n := n3) (by omega))
  refine region_held_tail 8 (fun W : World => W.cell? ⟨w.heap.size, 5, none⟩ = some (.slice A3 n3 c3)) (by kernel_rfl) (by kernel_rfl) ?_
  have hHeld : (fun W : World => W.cell? ⟨w.heap.size, 5, none⟩ = some (.slice A3 n3 c3)) w4.drew := c4b.cells.2.2.2.2.2
  have c5b := Lib.hid (c4b.drew.alloc (.cells (madeCells placeE.z.cells ((n3 + 9) * placeE.k)) 34))
  (refine HT.takeL (i := 0) (v := ?_) rfl (by kernel_rfl) (fun _ _ _ h => h) (Or.inl ⟨by rfl, ?_⟩) (by assumption) ?_
   rotate_left
   · (intro w hSw; (try dsimp only at hSw); go_simp; (try with_reducible rfl))
   try simp only [Act.put, List.setIfInBounds_toArray, List.set_cons_zero, List.set_cons_succ])
  (refine HT.takeL (i := 1) (v := ?_) rfl (by kernel_rfl) (fun _ _ _ h => h) (Or.inl ⟨by rfl, ?_⟩) (by assumption) ?_
   rotate_left
   · (intro w hSw; (try dsimp only at hSw); go_simp; (try with_reducible rfl))
   try simp only [Act.put, List.setIfInBounds_toArray, List.set_cons_zero, List.set_cons_succ])
  (refine HT.takeL (i := 2) (v := ?_) rfl (by kernel_rfl) (fun _ _ _ h => h) (Or.inl ⟨by rfl, ?_⟩) (by assumption) ?_
   rotate_left
   · (intro w hSw; (try dsimp only at hSw); go_simp; (try with_reducible rfl))
   try simp only [Act.put, List.setIfInBounds_toArray, List.set_cons_zero, List.set_cons_succ])
  (refine HT.takeL (i := 3) (v := .int .i64 ((n3 : Int) + 9)) rfl (by kernel_rfl) (fun _ _ _ h => h) (Or.inl ⟨by rfl, ?_⟩) (by assumption) ?_
   · (intro w hSw; (try dsimp only at hSw); go_simp; (simp only [h29.out]))
   try simp only [Act.put, List.setIfInBounds_toArray, List.set_cons_zero, List.set_cons_succ])
  (refine HT.takeL (i := 5) (v := ?_) rfl (by kernel_rfl) (fun _ _ _ h => h) (Or.inl ⟨by rfl, ?_⟩) (by assumption) ?_
   rotate_left
   · (intro w hSw; (try dsimp only at hSw); go_simp; (try with_reducible rfl))
   try simp only [Act.put, List.setIfInBounds_toArray, List.set_cons_zero, List.set_cons_succ])
  (refine HT.takeL (i := 6) (v := ?_) rfl (by kernel_rfl) (fun _ _ _ h => h) (Or.inl ⟨by rfl, ?_⟩) (by assumption) ?_
   rotate_left
   · (intro w hSw; (try dsimp only at hSw); go_simp; (try with_reducible rfl))
   try simp only [Act.put, List.setIfInBounds_toArray, List.set_cons_zero, List.set_cons_succ])
  (refine HT.onlyL (i := 4) rfl (by kernel_rfl) (fun K hK => ?_)
   (go_simp; rw [show (26 : TypeId) = placeE.S from rfl, hmk.out]; go_simp)
   refine hK.out _ _ ?_ (fun hHeld => ?_)
   · (exact c5b.out.cells.2.2.2.2.2)
   clear hK K
   try simp only [Act.put, List.setIfInBounds_toArray, List.set_cons_zero, List.set_cons_succ])
  have hr3 := (((h3.to f4).drew).alloc (Nat.le_refl _) (.cells (madeCells placeE.z.cells ((n3 + 9) * placeE.k)) 34))
  (refine HT.onlyL (i := 7) rfl (by kernel_rfl) (fun K hK => ?_)
   (refine Elem.step_row placeE rfl (.tmp 21) (.tmp 23) rfl w4.heap.size (.slice (some ⟨w4.heap.size, 0, none⟩) 0 (n3 + 9)) [] rfl A3 n3 c3 ps rfl (placeE.own_made w4.drew (n3 + 9) _ (by omega) (Nat.le_refl _)) _ hr3 (by simp; omega) (by first | omega | (simp; try omega)) ?_; intro v5 w5 o5 hg5 hat5; rw [List.nil_append] at o5; obtain ⟨B3, q3, rfl⟩ := o5.form; have hb5 : Below w4.heap.size w4 w5 := Below.grownOwn (by repeat (first | exact Below.refl _ _ | assumption | refine Below.drew ?_ | refine below_drewN ?_ _ | refine Below.alloc ?_ (by first | omega | (simp; try omega)) _ | refine Below.setCell ?_ (by first | omega | (simp; try omega)) _ | (refine Below.trans ?_ (Below.mono (by assumption) (by first | omega | (simp; try omega)))))) (placeE.own_made w4.drew (n3 + 9) _ (by omega) (Nat.le_refl _)) (Nat.le_refl _) (by first | omega | (simp; try omega)) hg5; have c6b := c4b.below hb5)
   refine hK.out _ _ ?_ (fun hHeld => ?_)
   · (exact c6b.cells.2.2.2.2.2)
   clear hK K
   try simp only [Act.put, List.setIfInBounds_toArray, List.set_cons_zero, List.set_cons_succ])
  refine HT.tail (by kernel_rfl) ?_
  simp only [List.drop_succ_cons, List.drop_zero]
  have hlt6 : w.heap.size + 1 < w5.heap.size := by have := hb5.size; omega
  have hlt7 : w.heap.size < w5.heap.size := by omega
  obtain ⟨x0, x1, x2, x3, x4, x5⟩ := c6b.cells
  have yf5 := c6b.frozen 5
  have c7b := c6b.set5 (.slice B3 ps.length q3)
  have d7b := ((d4b.out.below hb5).setOther (b' := w.heap.size) (o := 5) (.slice B3 ps.length q3) (by omega))
  have p7 := ((p4.out.below hb5).setOther (b := w.heap.size) (o := 5) (.slice B3 ps.length q3) hlt9).st6 (b := w.heap.size + 1) hlt0 k nn next (.slice B1 sn.length q1) (.slice B2 cs.length q2) (.slice B3 ps.length q3)
  have r7 := ((r4.out.below hb5).setOther (b := w.heap.size) (o := 5) (.slice B3 ps.length q3) (by omega)).st6 (b := w.heap.size + 1) (by omega) k nn next (.slice B1 sn.length q1) (.slice B2 cs.length q2) (.slice B3 ps.length q3)
  have s7 := (o5.setOther (b := w.heap.size) (o := 5) (.slice B3 ps.length q3) (by omega)).st6 (b := w.heap.size + 1) (by omega) k nn next (.slice B1 sn.length q1) (.slice B2 cs.length q2) (.slice B3 ps.length q3)
  have f7 : Below w.heap.size w (st6 (w5.setCell ⟨w.heap.size, 5, none⟩ (.slice B3 ps.length q3)) (w.heap.size + 1) k nn next (.slice B1 sn.length q1) (.slice B2 cs.length q2) (.slice B3 ps.length q3)) :=
    below_st6 ((f4.trans (hb5.mono (by omega))).setCell (p := ⟨w.heap.size, 5, none⟩) (Nat.le_refl _) _) (by omega) _ _ _ _ _ _
  have fin : Hid (StAt (st6 (w5.setCell ⟨w.heap.size, 5, none⟩ (.slice B3 ps.length q3)) (w.heap.size + 1) k nn next (.slice B1 sn.length q1) (.slice B2 cs.length q2) (.slice B3 ps.length q3)) (st6 (w5.setCell ⟨w.heap.size, 5, none⟩ (.slice B3 ps.length q3)) (w.heap.size + 1) k nn next (.slice B1 sn.length q1) (.slice B2 cs.length q2) (.slice B3 ps.length q3)).heap.size ⟨B1, sn.length, q1, B2, cs.length, q2, B3, ps.length, q3⟩ ⟨k, nn, next, sn, cs, ps⟩) :=
    ⟨p7.row Snap.len, r7.row strCell_len, s7.row Place.cells_len, hok.out⟩
  have bz9 := Lib.hid (d7b.st6 k nn next (.slice B1 sn.length q1) (.slice B2 cs.length q2) (.slice B3 ps.length q3))
  have dz := Lib.hid (d4b.out.below hb5)
  (obtain ⟨g0, g1, g2, g3, g4, g5⟩ := (dz.out).cells
   have e0 := (dz.out).frozen 0
   have e1 := (dz.out).frozen 1
   have e2 := (dz.out).frozen 2
   have e3 := (dz.out).frozen 3
   have e4 := (dz.out).frozen 4
   have e5 := (dz.out).frozen 5)
  replace f7 := Lib.hid f7
  replace d7b := Lib.hid d7b
  replace c7b := Lib.hid c7b
  replace c6b := Lib.hid c6b
  clear p7 r7 s7 hHeld hg5 hat5 hmk h29 c4b
  go_wp2_with fail
  clear g0 g1 g2 g3 g4 g5 x0 x1 x2 x3 x4 x5
  obtain ⟨t0, t1, t2, t3, t4, t5⟩ := bz9.out.cells
  exact bodyPost_ret (v := .agg #[.int .i64 k, .int .i64 nn, .int .i64 next, .slice B1 sn.length q1, .slice B2 cs.length q2, .slice B3 ps.length q3]) (by simp [results, Try.results39, go_sem, t0, t1, t2, t3, t4, t5]) rfl ⟨⟨B1, sn.length, q1, B2, cs.length, q2, B3, ps.length, q3⟩, rfl, fin.out, f7.out⟩
end Go.Proofs.Ythbmbbbojpdlaaa
