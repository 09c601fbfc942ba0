/-
  The walk of MarkMore.
-/
import Derived.Test.YtcepdigeimedoaaMoreL
import Derived.Test.YtcepdigeimedoaaMoreA
import Derived.Test.YtcepdigeimedoaaMarkG
namespace Go.Proofs.Ytcepdigeimedoaa
open Go.RowKit
attribute [local go_sem ↓] Go.wp_at_zero Go.wp_at_succ

theorem sp_noStr {T : TypeId} {w : World} {b o : Nat} {t : ByteArray} (h : SpBox T w b (.slice none 0 0) (.slice none 0 0) (.slice none 0 0) (.slice none 0 0) (.slice none 0 0)) : w.cell? ⟨b, o, none⟩ ≠ some (.string t) := by
  intro e
  rw [cell_of_row w b o _ _ _ h] at e
  match o, e with
  | 0, e => simp at e
  | 1, e => simp at e
  | 2, e => simp at e
  | 3, e => simp at e
  | 4, e => simp at e
  | o + 5, e => simp at e
theorem RowAt.spbox {T : TypeId} {w : World} {A : Option Addr} {n b : Nat} {l : List ByteArray} (h : StrsAt w w.heap.size A n l) (hz : SpBox T w b (.slice none 0 0) (.slice none 0 0) (.slice none 0 0) (.slice none 0 0) (.slice none 0 0)) (a0 a1 a2 a3 a4 : Value) :
    StrsAt (((((w.setCell ⟨b, 0, none⟩ a0).setCell ⟨b, 1, none⟩ a1).setCell ⟨b, 2, none⟩ a2).setCell ⟨b, 3, none⟩ a3).setCell ⟨b, 4, none⟩ a4) (((((w.setCell ⟨b, 0, none⟩ a0).setCell ⟨b, 1, none⟩ a1).setCell ⟨b, 2, none⟩ a2).setCell ⟨b, 3, none⟩ a3).setCell ⟨b, 4, none⟩ a4).heap.size A n l := by
  refine ⟨h.1, h.2.1, fun hn => ?_⟩
  obtain ⟨b', off, e, hb, hc⟩ := h.2.2 hn
  refine ⟨b', off, e, by simpa using hb, fun i y hy j v hv => ?_⟩
  have hne : b' ≠ b := fun e => sp_noStr hz (e ▸ hc i y hy 0 (.string y) rfl)
  have far : ∀ (W : World) (o : Nat) (u : Value), (W.setCell ⟨b, o, none⟩ u).cell? ⟨b', off + i * 1 + j, none⟩ = W.cell? ⟨b', off + i * 1 + j, none⟩ := fun W o u => World.cell?_setCell_far W _ _ u (fun e => hne e.symm)
  rw [far, far, far, far, far]
  exact hc i y hy j v hv
set_option maxHeartbeats 16000000 in
set_option maxRecDepth 100000 in
theorem markMore_walk (v : Rws) (s : St) (A : Option Addr) (n c : Nat) (L : List ByteArray) (A' : Option Addr) (n' c' : Nat) (M : List ByteArray) (w : World) (h : StAt w w.heap.size v s) (hL : StrsAt w w.heap.size A n L) (hLs : ∀ x ∈ L, x.size ≤ maxLen) (hM : StrsAt w w.heap.size A' n' M) (hMs : ∀ x ∈ M, x.size ≤ maxLen) :
    Calls Try.prog 13 #[v.val s, .slice A n c, .slice A' n' c'] w fun e w' => e = .returned (.bool true) ∧ Below w.heap.size w w' := by
  have hst := Lib.hid h
  have h1 := fun W hs hl (hn : n ≤ 100000) => mark_Of v s A n c L W hs hl hLs hn
  have h2 := fun B m d W hs hl (hn : m ≤ 100000) => mark_Of v s B m d (L ++ M) W hs hl (fun x hx => by rcases List.mem_append.1 hx with h | h; exact hLs x h; exact hMs x h) hn
  obtain ⟨l0, l1, l2, l3, l4, z, g0, g1, g2, g3, g4, y, hz, hy, hlaw⟩ := more_cases s L M
  rw [hz] at h1
  rw [hy] at h2
  clear hz hy
  obtain ⟨k, nn, next, sn, cs, ps⟩ := s
  obtain ⟨V1, v1, q1, V2, v2, q2, V3, v3, q3⟩ := v
  unfold Rws.val stv at h1 h2
  unfold Rws.val stv
  dsimp only [Sp.lists] at h1 h2 ⊢
  have bs := Lib.hid (BoxAt.new w k nn next (.slice V1 v1 q1) (.slice V2 v2 q2) (.slice V3 v3 q3))
  have fw : Below w.heap.size w (w.alloc (.cells #[.int .i64 k, .int .i64 nn, .int .i64 next, .slice V1 v1 q1, .slice V2 v2 q2, .slice V3 v3 q3] 71)) := (Below.refl _ _).alloc (Nat.le_refl _) _
  have sst := Lib.hid (hst.out.to fw)
  have rL := Lib.hid (hL.to fw)
  have rM := Lib.hid (hM.to fw)
  have lL := Lib.hid hL.1
  have lM := Lib.hid hM.1
  replace h1 := Lib.hid h1
  replace h2 := Lib.hid h2
  replace hlaw := Lib.hid hlaw
  clear h hst hL hM
  go_enter Try.func13, Try.ntmps13
  go_upto_region 1 with fail
  generalize w.alloc (.cells #[.int .i64 k, .int .i64 nn, .int .i64 next, .slice V1 v1 q1, .slice V2 v2 q2, .slice V3 v3 q3] 71) = w0 at bs fw sst rL rM ⊢
  obtain ⟨x0, x1, x2, x3, x4, x5⟩ := bs.out.cells
  by_cases hbig : 450 < v2 ∨ 450 < v3 ∨ 500 < n ∨ 500 < n'
  · by_cases b0 : 450 < v2
    · have s0 : decide ((450 : Int) < (v2 : Int)) = true := by simp; omega
      go_wp2_with fail
      refine (law24_awake _).mono ?_
      rintro e w1 ⟨rfl, hb1⟩
      go_wp2_with fail
      go_ret
      exact ⟨rfl, fw.trans (hb1.mono fw.size)⟩
    · have s0 : decide ((450 : Int) < (v2 : Int)) = false := by simp; omega
      by_cases b1 : 450 < v3
      · have s1 : decide ((450 : Int) < (v3 : Int)) = true := by simp; omega
        go_wp2_with fail
        refine (law24_awake _).mono ?_
        rintro e w1 ⟨rfl, hb1⟩
        go_wp2_with fail
        go_ret
        exact ⟨rfl, fw.trans (hb1.mono fw.size)⟩
      · have s1 : decide ((450 : Int) < (v3 : Int)) = false := by simp; omega
        by_cases b2 : 500 < n
        · have s2 : decide ((500 : Int) < (n : Int)) = true := by simp; omega
          go_wp2_with fail
          refine (law24_awake _).mono ?_
          rintro e w1 ⟨rfl, hb1⟩
          go_wp2_with fail
          go_ret
          exact ⟨rfl, fw.trans (hb1.mono fw.size)⟩
        · have s2 : decide ((500 : Int) < (n : Int)) = false := by simp; omega
          have s3 : decide ((500 : Int) < (n' : Int)) = true := by simp; omega
          go_wp2_with fail
          refine (law24_awake _).mono ?_
          rintro e w1 ⟨rfl, hb1⟩
          go_wp2_with fail
          go_ret
          exact ⟨rfl, fw.trans (hb1.mono fw.size)⟩
  have t2 : decide ((450 : Int) < (v2 : Int)) = false := by simp; omega
  have t3 : decide ((450 : Int) < (v3 : Int)) = false := by simp; omega
  have t4 : decide ((500 : Int) < (n : Int)) = false := by simp; omega
  have t5 : decide ((500 : Int) < (n' : Int)) = false := by simp; omega
  have hn : n ≤ 500 := by omega
  have hn' : n' ≤ 500 := by omega
  go_wp2_with fail
  refine (law24_awake _).mono ?_
  rintro e w1 ⟨rfl, hb1⟩
  replace bs := Lib.hid (bs.out.below hb1)
  replace sst := Lib.hid (sst.out.to hb1)
  replace rL := Lib.hid (rL.out.to hb1)
  replace rM := Lib.hid (rM.out.to hb1)
  replace fw := fw.trans (hb1.mono fw.size)
  clear x0 x1 x2 x3 x4 x5
  obtain ⟨x0, x1, x2, x3, x4, x5⟩ := bs.out.cells
  go_wp2_with fail
  refine (h1.out w1 sst.out rL.out (by omega)).mono ?_
  rintro e w2 ⟨a0, a1, a2, a3, a4, rfl, fa, hb2⟩
  obtain ⟨A0, n0, c0, rfl⟩ := Owns.form3 (fa.own 0 _ _ rfl rfl)
  obtain ⟨A1, n1, c1, rfl⟩ := Owns.form3 (fa.own 1 _ _ rfl rfl)
  obtain ⟨A2, n2, c2, rfl⟩ := Owns.form3 (fa.own 2 _ _ rfl rfl)
  obtain ⟨A3, n3, c3, rfl⟩ := Owns.form3 (fa.own 3 _ _ rfl rfl)
  obtain ⟨A4, n4, c4, rfl⟩ := Owns.form3 (fa.own 4 _ _ rfl rfl)
  have hz2 := hb2.size
  clear x0 x1 x2 x3 x4 x5
  go_upto_region 4 with fail
  have bax := SpBox.new 73 w2 (.slice A0 n0 c0) (.slice A1 n1 c1) (.slice A2 n2 c2) (.slice A3 n3 c3) (.slice A4 n4 c4)
  have hf2 : Below w2.heap.size w2 (w2.alloc (.cells #[.slice A0 n0 c0, .slice A1 n1 c1, .slice A2 n2 c2, .slice A3 n3 c3, .slice A4 n4 c4] 73)) := (Below.refl _ _).alloc (Nat.le_refl _) _
  have hbx : Below w1.heap.size w1 (w2.alloc (.cells #[.slice A0 n0 c0, .slice A1 n1 c1, .slice A2 n2 c2, .slice A3 n3 c3, .slice A4 n4 c4] 73)) := hb2.trans (hf2.mono hz2)
  generalize w2.alloc (.cells #[.slice A0 n0 c0, .slice A1 n1 c1, .slice A2 n2 c2, .slice A3 n3 c3, .slice A4 n4 c4] 73) = w4 at bax hf2 hbx ⊢
  replace bs := Lib.hid (bs.out.below hbx)
  replace sst := Lib.hid (sst.out.to hbx)
  replace rL := Lib.hid (rL.out.to hbx)
  replace rM := Lib.hid (rM.out.to hbx)
  replace fw := fw.trans (hbx.mono fw.size)
  have rp0 := Lib.hid (((fa.own 0 _ _ rfl rfl).row strCell_len).to hf2)
  have rp1 := Lib.hid (((fa.own 1 _ _ rfl rfl).row strCell_len).to hf2)
  have rp2 := Lib.hid (((fa.own 2 _ _ rfl rfl).row strCell_len).to hf2)
  have rp3 := Lib.hid (((fa.own 3 _ _ rfl rfl).row strCell_len).to hf2)
  have rp4 := Lib.hid (((fa.own 4 _ _ rfl rfl).row strCell_len).to hf2)
  replace bax := Lib.hid bax
  clear fa hb2 hbx
  obtain ⟨x0, x1, x2, x3, x4, x5⟩ := bs.out.cells
  have lx := bs.out.lt
  have lL' := lL.out
  have lM' := lM.out
  refine region_krip (fun W : World => Below w4.heap.size w4 W) (by kernel_rfl) ((Below.refl _ _).drew) ?_
  (refine kF.takeL (i := 0) (v := ?_) rfl (by kernel_rfl) (fun _ _ _ h => h) (Or.inl ⟨by rfl, ?_⟩) ?_
   rotate_left
   · (intro wS hSw; (try dsimp only at hSw); have hcS := fun b o (h : b < w4.heap.size) => hSw.cell (p := ⟨b, o, none⟩) h; go_simp; (try with_reducible rfl))
   try simp only [Act.put, List.setIfInBounds_toArray, List.set_cons_zero, List.set_cons_succ])
  (refine kF.takeL (i := 2) (v := ?_) rfl (by kernel_rfl) (fun _ _ _ h => h) (Or.inl ⟨by rfl, ?_⟩) ?_
   rotate_left
   · (intro wS hSw; (try dsimp only at hSw); have hcS := fun b o (h : b < w4.heap.size) => hSw.cell (p := ⟨b, o, none⟩) h; go_simp; (try with_reducible rfl))
   try simp only [Act.put, List.setIfInBounds_toArray, List.set_cons_zero, List.set_cons_succ])
  (refine kF.takeL (i := 4) (v := ?_) rfl (by kernel_rfl) (fun _ _ _ h => h) (Or.inl ⟨by rfl, ?_⟩) ?_
   rotate_left
   · (intro wS hSw; (try dsimp only at hSw); have hcS := fun b o (h : b < w4.heap.size) => hSw.cell (p := ⟨b, o, none⟩) h; go_simp; (try with_reducible rfl))
   try simp only [Act.put, List.setIfInBounds_toArray, List.set_cons_zero, List.set_cons_succ])
  (refine kF.newL (i := 10) (fun b => .pointer (some ⟨b, 0, none⟩)) (.cells #[.slice none 0 0, .slice none 0 0, .slice none 0 0, .slice none 0 0, .slice none 0 0] 73) rfl (by kernel_rfl) (by rfl) ?_ ?_
   · (intro wS; go_simp; (try with_reducible rfl)))
  (refine kF.newL (i := 1) (fun b => .slice (some ⟨b, 0, none⟩) 0 0) (.cells #[] 9) rfl (by kernel_rfl) (by rfl) ?_ ?_
   · (intro wS; go_simp; (try with_reducible rfl)))
  (refine kF.settleL (by kernel_rfl) (fun _ _ h1 h2 => below_S (Nat.le_refl _) h1 h2) (fun u1 hbu1 hSu1 v hv => ?_)
   obtain ⟨bu1, hBu1, rfl, hxu1⟩ := hv
   try simp only [Act.put, List.setIfInBounds_toArray, List.set_cons_zero, List.set_cons_succ])
  (refine kF.onlyL (j := 3) rfl (by kernel_rfl) (fun _ _ _ _ _ h => h) (fun _ _ h1 h2 => below_S (Nat.le_refl _) h1 h2) (fun k3 hbk3 hek3 hSk3 K hK => ?_)
   ((apply Elem.step_row strE (s := .tmp 44) (x := .tmp 45) (base := w4.heap.size) (l := []) (l' := L); (case' hgd => rfl); (case' ho => rfl); (case' hs => rfl); (case' hx => rfl); (case' hown => exact (own_empty (k := strE.k) (enc := strE.enc) (T := strE.T) (blkB hxu1 hbk3) hBu1)); (case' hr => exact ((rL.out.to hSk3))); (case' hl => exact (by simp; omega)); (case' hbase => exact Below.size (by assumption))); intro va ma oa ga _)
   refine hK.out _ _ (Below.grownOwn hSk3 (own_empty (k := strE.k) (enc := strE.enc) (T := strE.T) (blkB hxu1 hbk3) hBu1) (Nat.le_refl _) (hSk3.size) ga) (.inr (.inr ⟨ga.size, (by intro x hx v hv; simp only [List.mem_singleton] at hx; subst hx; exact newV.grownOwn hv (own_empty (k := strE.k) (enc := strE.enc) (T := strE.T) (blkB hxu1 hbk3) hBu1) ga (by decide))⟩)) ?_
   clear hK K hek3
   try simp only [Act.put, List.setIfInBounds_toArray, List.set_cons_zero, List.set_cons_succ])
  (refine kF.onlyL (j := 5) rfl (by kernel_rfl) (fun _ _ _ _ _ h => h) (fun _ _ h1 h2 => below_S (Nat.le_refl _) h1 h2) (fun k5 hbk5 hek5 hSk5 K hK => ?_)
   ((apply Elem.step_row strE (s := .tmp 46) (x := .tmp 47) (base := w4.heap.size) (l := ([] ++ L)) (l' := M); (case' hgd => rfl); (case' ho => rfl); (case' hs => rfl); (case' hx => rfl); (case' hown => exact (oa.below hbk5)); (case' hr => exact ((rM.out.to hSk5))); (case' hl => exact (by simp; omega)); (case' hbase => exact Below.size (by assumption))); intro vb mb ob gb _)
   refine hK.out _ _ (Below.grownOwn hSk5 (oa.below hbk5) (Nat.le_refl _) (hSk5.size) gb) (.inr (.inr ⟨gb.size, (by intro x hx v hv; simp only [List.mem_singleton] at hx; subst hx; exact newV.grownOwn hv (oa.below hbk5) gb (by decide))⟩)) ?_
   clear hK K hek5
   try simp only [Act.put, List.setIfInBounds_toArray, List.set_cons_zero, List.set_cons_succ])
  rw [List.nil_append] at ob
  obtain ⟨AB, nb, qB, rfl⟩ := Owns.form3 ob
  have hnb : nb ≤ 100000 := by have h1 := (ob.row strCell_len).1; have h2 := lL.out; have h3 := lM.out; simp at h1; omega
  (refine kF.onlyL (j := 6) rfl (by kernel_rfl) (fun _ _ _ _ _ h => h) (fun _ _ h1 h2 => below_S (Nat.le_refl _) h1 h2) (fun k6 hbk6 hek6 hSk6 K hK => ?_)
   (go_simp; refine (h2.out AB nb qB k6 (sst.out.to hSk6) ((ob.row strCell_len).to hbk6) hnb).mono ?_; rintro e m6 ⟨d0, d1, d2, d3, d4, rfl, fb, hb6⟩)
   refine hK.out _ _ (below_S (Nat.le_refl _) hSk6 hb6) (.inr (.inl hb6)) ?_
   clear hK K hek6
   try simp only [Act.put, List.setIfInBounds_toArray, List.set_cons_zero, List.set_cons_succ])
  obtain ⟨D0, m0', e0', rfl⟩ := Owns.form3 (fb.own 0 _ _ rfl rfl)
  have rq0 := (fb.own 0 _ _ rfl rfl).row strCell_len
  obtain ⟨D1, m1', e1', rfl⟩ := Owns.form3 (fb.own 1 _ _ rfl rfl)
  have rq1 := (fb.own 1 _ _ rfl rfl).row strCell_len
  obtain ⟨D2, m2', e2', rfl⟩ := Owns.form3 (fb.own 2 _ _ rfl rfl)
  have rq2 := (fb.own 2 _ _ rfl rfl).row strCell_len
  obtain ⟨D3, m3', e3', rfl⟩ := Owns.form3 (fb.own 3 _ _ rfl rfl)
  have rq3 := (fb.own 3 _ _ rfl rfl).row strCell_len
  obtain ⟨D4, m4', e4', rfl⟩ := Owns.form3 (fb.own 4 _ _ rfl rfl)
  have rq4 := (fb.own 4 _ _ rfl rfl).row strCell_len
  (refine kF.takeL (i := 7) (v := ?_) rfl (by kernel_rfl) (fun _ _ _ h => h) (Or.inl ⟨by rfl, ?_⟩) ?_
   rotate_left
   · (intro wS hSw; (try dsimp only at hSw); have hcS := fun b o (h : b < w4.heap.size) => hSw.cell (p := ⟨b, o, none⟩) h; go_simp; (try with_reducible rfl))
   try simp only [Act.put, List.setIfInBounds_toArray, List.set_cons_zero, List.set_cons_succ])
  (refine kF.takeL (i := 8) (v := ?_) rfl (by kernel_rfl) (fun _ _ _ h => h) (Or.inl ⟨by rfl, ?_⟩) ?_
   rotate_left
   · (intro wS hSw; (try dsimp only at hSw); have hcS := fun b o (h : b < w4.heap.size) => hSw.cell (p := ⟨b, o, none⟩) h; go_simp; (try with_reducible rfl))
   try simp only [Act.put, List.setIfInBounds_toArray, List.set_cons_zero, List.set_cons_succ])
  (refine kF.takeL (i := 9) (v := ?_) rfl (by kernel_rfl) (fun _ _ _ h => h) (Or.inl ⟨by rfl, ?_⟩) ?_
   rotate_left
   · (intro wS hSw; (try dsimp only at hSw); have hcS := fun b o (h : b < w4.heap.size) => hSw.cell (p := ⟨b, o, none⟩) h; go_simp; (try with_reducible rfl))
   try simp only [Act.put, List.setIfInBounds_toArray, List.set_cons_zero, List.set_cons_succ])
  (refine kF.settleL (by kernel_rfl) (fun _ _ h1 h2 => below_S (Nat.le_refl _) h1 h2) (fun u10 hbu10 hSu10 v hv => ?_)
   obtain ⟨bu10, hBu10, rfl, hxu10⟩ := hv
   try simp only [Act.put, List.setIfInBounds_toArray, List.set_cons_zero, List.set_cons_succ])
  have hx0 : SpBox 73 u10 bu10 (.slice none 0 0) (.slice none 0 0) (.slice none 0 0) (.slice none 0 0) (.slice none 0 0) := hxu10
  obtain ⟨y0, y1, y2, y3, y4⟩ := hx0.cells
  have f0 := hx0.frozen 0
  have f1 := hx0.frozen 1
  have f2 := hx0.frozen 2
  have f3 := hx0.frozen 3
  have f4 := hx0.frozen 4
  have ly := hx0.lt
  (refine kF.lastL (j := 11) rfl (by kernel_rfl) (fun _ _ _ _ _ h => h) (fun _ _ h1 h2 => below_S (Nat.le_refl _) h1 h2) (fun hSk K hK => ?_)
   go_simp
   refine hK.out _ _ ((((((hSk.setCell (p := ⟨bu10, 0, none⟩) hBu10 _).setCell (p := ⟨bu10, 1, none⟩) hBu10 _).setCell (p := ⟨bu10, 2, none⟩) hBu10 _).setCell (p := ⟨bu10, 3, none⟩) hBu10 _).setCell (p := ⟨bu10, 4, none⟩) hBu10 _)) ?_
   clear hK K
   try simp only [Act.put, List.setIfInBounds_toArray, List.set_cons_zero, List.set_cons_succ])
  (refine kF.takeL (i := 12) (v := ?_) rfl (by kernel_rfl) (fun _ _ _ h => h) (Or.inl ⟨by rfl, ?_⟩) ?_
   rotate_left
   · (intro wS hSw; (try dsimp only at hSw); have hcS := fun b o (h : b < w4.heap.size) => hSw.cell (p := ⟨b, o, none⟩) h; go_simp; (try with_reducible rfl))
   try simp only [Act.put, List.setIfInBounds_toArray, List.set_cons_zero, List.set_cons_succ])
  refine kF.done (by kernel_rfl) ?_
  have hSy : Below w4.heap.size w4 (((((u10.setCell ⟨bu10, 0, none⟩ (.slice D0 m0' e0')).setCell ⟨bu10, 1, none⟩ (.slice D1 m1' e1')).setCell ⟨bu10, 2, none⟩ (.slice D2 m2' e2')).setCell ⟨bu10, 3, none⟩ (.slice D3 m3' e3')).setCell ⟨bu10, 4, none⟩ (.slice D4 m4' e4')) := (((((hSu10.setCell (p := ⟨bu10, 0, none⟩) hBu10 _).setCell (p := ⟨bu10, 1, none⟩) hBu10 _).setCell (p := ⟨bu10, 2, none⟩) hBu10 _).setCell (p := ⟨bu10, 3, none⟩) hBu10 _).setCell (p := ⟨bu10, 4, none⟩) hBu10 _)
  have bbx : SpBox 73 (((((u10.setCell ⟨bu10, 0, none⟩ (.slice D0 m0' e0')).setCell ⟨bu10, 1, none⟩ (.slice D1 m1' e1')).setCell ⟨bu10, 2, none⟩ (.slice D2 m2' e2')).setCell ⟨bu10, 3, none⟩ (.slice D3 m3' e3')).setCell ⟨bu10, 4, none⟩ (.slice D4 m4' e4')) bu10 (.slice D0 m0' e0') (.slice D1 m1' e1') (.slice D2 m2' e2') (.slice D3 m3' e3') (.slice D4 m4' e4') := ((((hx0.set0 _).set1 _).set2 _).set3 _).set4 _
  replace rq0 := Lib.hid (RowAt.spbox (rq0.to hbu10) hx0 (.slice D0 m0' e0') (.slice D1 m1' e1') (.slice D2 m2' e2') (.slice D3 m3' e3') (.slice D4 m4' e4'))
  replace rq1 := Lib.hid (RowAt.spbox (rq1.to hbu10) hx0 (.slice D0 m0' e0') (.slice D1 m1' e1') (.slice D2 m2' e2') (.slice D3 m3' e3') (.slice D4 m4' e4'))
  replace rq2 := Lib.hid (RowAt.spbox (rq2.to hbu10) hx0 (.slice D0 m0' e0') (.slice D1 m1' e1') (.slice D2 m2' e2') (.slice D3 m3' e3') (.slice D4 m4' e4'))
  replace rq3 := Lib.hid (RowAt.spbox (rq3.to hbu10) hx0 (.slice D0 m0' e0') (.slice D1 m1' e1') (.slice D2 m2' e2') (.slice D3 m3' e3') (.slice D4 m4' e4'))
  replace rq4 := Lib.hid (RowAt.spbox (rq4.to hbu10) hx0 (.slice D0 m0' e0') (.slice D1 m1' e1') (.slice D2 m2' e2') (.slice D3 m3' e3') (.slice D4 m4' e4'))
  generalize (((((u10.setCell ⟨bu10, 0, none⟩ (.slice D0 m0' e0')).setCell ⟨bu10, 1, none⟩ (.slice D1 m1' e1')).setCell ⟨bu10, 2, none⟩ (.slice D2 m2' e2')).setCell ⟨bu10, 3, none⟩ (.slice D3 m3' e3')).setCell ⟨bu10, 4, none⟩ (.slice D4 m4' e4')) = wy at hSy bbx rq0 rq1 rq2 rq3 rq4 ⊢
  clear y0 y1 y2 y3 y4 f0 f1 f2 f3 f4 ly hx0 hxu10 hSu10 hbu10 hBu10
  replace fw := fw.trans (hSy.mono fw.size)
  have bay := SpBox.below bax.out bax.out.lt hSy
  replace rp0 := Lib.hid (rp0.out.to hSy)
  replace rp1 := Lib.hid (rp1.out.to hSy)
  replace rp2 := Lib.hid (rp2.out.to hSy)
  replace rp3 := Lib.hid (rp3.out.to hSy)
  replace rp4 := Lib.hid (rp4.out.to hSy)
  clear x0 x1 x2 x3 x4 x5 lx
  obtain ⟨ga0, ga1, ga2, ga3, ga4⟩ := bay.cells
  have lu := bay.lt
  obtain ⟨t0, t1, t2', t3', t4'⟩ := bbx.cells
  have lt := bbx.lt
  rcases hlaw.out with ⟨rfl, rfl⟩ | ⟨rfl, rfl, hg, hd, hl, f0, f1, f3, e0, e1, e3⟩
  · go_wp2_with fail
    go_ret
    exact ⟨rfl, (by repeat (first | exact Below.refl _ _ | assumption | refine Below.drew ?_ | refine below_drewN ?_ _ | refine Below.alloc ?_ (by first | omega | (simp; try omega)) _ | refine Below.setCell ?_ (by first | omega | (simp; try omega)) _ | (refine Below.trans ?_ (Below.mono (by assumption) (by first | omega | (simp; try omega))))))⟩
  · have kk1 := decide_eq_true hg
    have kk3 := decide_eq_true hd
    have kk0 := decide_eq_true hl
    have i1 := rp1.out.1
    have i3 := rp3.out.1
    have j0 := rq0.out.1
    have c1' := fun W (hb : Below wy.heap.size wy W) => law24_among D1 A1 m1' n1 e1' c1 g1 l1 W (rq1.out.to hb) (rp1.out.to hb) e1.1 f1.1 (by have := f1.2; omega)
    have c3' := fun W (hb : Below wy.heap.size wy W) => law24_among D3 A3 m3' n3 e3' c3 g3 l3 W (rq3.out.to hb) (rp3.out.to hb) e3.1 f3.1 (by have := f3.2; omega)
    have c0' := fun W (hb : Below wy.heap.size wy W) => law24_among A0 D0 n0 m0' c0 e0' l0 g0 W (rp0.out.to hb) (rq0.out.to hb) f0.1 e0.1 (by have := e0.2; omega)
    rw [kk1] at c1'
    rw [kk3] at c3'
    rw [kk0] at c0'
    replace c1' := Lib.hid c1'
    replace c3' := Lib.hid c3'
    replace c0' := Lib.hid c0'
    replace hg := Lib.hid hg
    replace hd := Lib.hid hd
    replace hl := Lib.hid hl
    clear f0 f1 f3 e0 e1 e3 kk0 kk1 kk3 i1 i3 j0
    go_wp2_with fail
    refine (c1'.out _ (by repeat (first | exact Below.refl _ _ | assumption | refine Below.drew ?_ | refine below_drewN ?_ _ | refine Below.alloc ?_ (by first | omega | (simp; try omega)) _ | refine Below.setCell ?_ (by first | omega | (simp; try omega)) _ | (refine Below.trans ?_ (Below.mono (by assumption) (by first | omega | (simp; try omega))))))).mono ?_
    rintro e wa ⟨rfl, hba⟩
    have bay1 := SpBox.below bay bay.lt hba
    have bby1 := SpBox.below bbx bbx.lt hba
    clear ga0 ga1 ga2 ga3 ga4 t0 t1 t2' t3' t4'
    obtain ⟨ga0, ga1, ga2, ga3, ga4⟩ := bay1.cells
    obtain ⟨t0, t1, t2', t3', t4'⟩ := bby1.cells
    go_wp2_with fail
    refine (c3'.out _ (by repeat (first | exact Below.refl _ _ | assumption | refine Below.drew ?_ | refine below_drewN ?_ _ | refine Below.alloc ?_ (by first | omega | (simp; try omega)) _ | refine Below.setCell ?_ (by first | omega | (simp; try omega)) _ | (refine Below.trans ?_ (Below.mono (by assumption) (by first | omega | (simp; try omega))))))).mono ?_
    rintro e wb ⟨rfl, hbb⟩
    have bay2 := SpBox.below bay1 bay1.lt hbb
    have bby2 := SpBox.below bby1 bby1.lt hbb
    clear ga0 ga1 ga2 ga3 ga4 t0 t1 t2' t3' t4'
    obtain ⟨ga0, ga1, ga2, ga3, ga4⟩ := bay2.cells
    obtain ⟨t0, t1, t2', t3', t4'⟩ := bby2.cells
    have hyb : Below wy.heap.size wy wb := hba.trans (hbb.mono hba.size)
    go_wp2_with fail
    refine (c0'.out _ hyb).mono ?_
    rintro e wc ⟨rfl, hbc⟩
    go_wp2_with fail
    go_ret
    exact ⟨rfl, fw.trans ((hyb.trans (hbc.mono hyb.size)).mono fw.size)⟩
end Go.Proofs.Ytcepdigeimedoaa
