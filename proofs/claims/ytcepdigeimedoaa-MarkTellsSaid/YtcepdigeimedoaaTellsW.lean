/-
  The walk of MarkTells.
-/
import Derived.Test.YtcepdigeimedoaaMarkG
import Derived.Test.YtcepdigeimedoaaMarkE
namespace Go.Proofs.Ytcepdigeimedoaa
open Go.RowKit
attribute [local go_sem ↓] Go.wp_at_zero Go.wp_at_succ

set_option maxHeartbeats 16000000 in
set_option maxRecDepth 100000 in
theorem markTells_walk (v : Rws) (s : St) (A : Option Addr) (n c : Nat) (L : List ByteArray) (w : World) (h : StAt w w.heap.size v s) (hL : StrsAt w w.heap.size A n L) (hLs : ∀ x ∈ L, x.size ≤ maxLen) :
    Calls Try.prog 10 #[v.val s, .slice A n c] w fun e w' => e = .returned (.bool true) ∧ Below w.heap.size w w' := by
  have hst := Lib.hid h
  have h1 := fun W hs hl (hn : n ≤ 100000) => mark_Of v s A n c L W hs hl hLs hn
  have h2 := fun W hs hl (hn : n ≤ 100000) => ref24_Of v s A n c L W hs hl hn
  obtain ⟨⟨⟨l0, l1, l2, l3, l4⟩, z⟩, hz⟩ : ∃ x, x = markRes s L := ⟨_, rfl⟩
  rw [← hz] at h1 h2
  obtain ⟨k, nn, next, sn, cs, ps⟩ := s
  obtain ⟨V1, v1, q1, V2, v2, q2, V3, v3, q3⟩ := v
  unfold Rws.val stv at h1 h2
  unfold Rws.val stv
  dsimp only [Sp.lists] at h1 h2 ⊢
  have bs := Lib.hid (BoxAt.new w k nn next (.slice V1 v1 q1) (.slice V2 v2 q2) (.slice V3 v3 q3))
  have fw : Below w.heap.size w (w.alloc (.cells #[.int .i64 k, .int .i64 nn, .int .i64 next, .slice V1 v1 q1, .slice V2 v2 q2, .slice V3 v3 q3] 71)) := (Below.refl _ _).alloc (Nat.le_refl _) _
  have sst := Lib.hid (hst.out.to fw)
  have rL := Lib.hid (hL.to fw)
  replace h1 := Lib.hid h1
  replace h2 := Lib.hid h2
  replace hz := Lib.hid hz
  clear h hst hL
  go_enter Try.func10, Try.ntmps10
  go_upto_region 1 with fail
  generalize w.alloc (.cells #[.int .i64 k, .int .i64 nn, .int .i64 next, .slice V1 v1 q1, .slice V2 v2 q2, .slice V3 v3 q3] 71) = w0 at bs fw sst rL ⊢
  obtain ⟨x0, x1, x2, x3, x4, x5⟩ := bs.out.cells
  by_cases hbig : 450 < v2 ∨ 450 < v3 ∨ 500 < n
  · by_cases g2 : 450 < v2
    · have g2' : decide ((450 : Int) < (v2 : Int)) = true := by simp; omega
      go_wp2_with fail
      refine (law24_awake _).mono ?_
      rintro e w1 ⟨rfl, hb1⟩
      go_wp2_with fail
      go_ret
      exact ⟨rfl, fw.trans (hb1.mono fw.size)⟩
    · have g2' : decide ((450 : Int) < (v2 : Int)) = false := by simp; omega
      by_cases g3 : 450 < v3
      · have g3' : decide ((450 : Int) < (v3 : Int)) = true := by simp; omega
        go_wp2_with fail
        refine (law24_awake _).mono ?_
        rintro e w1 ⟨rfl, hb1⟩
        go_wp2_with fail
        go_ret
        exact ⟨rfl, fw.trans (hb1.mono fw.size)⟩
      · have g3' : decide ((450 : Int) < (v3 : Int)) = false := by simp; omega
        have g4' : decide ((500 : Int) < (n : Int)) = true := by simp; omega
        go_wp2_with fail
        refine (law24_awake _).mono ?_
        rintro e w1 ⟨rfl, hb1⟩
        go_wp2_with fail
        go_ret
        exact ⟨rfl, fw.trans (hb1.mono fw.size)⟩
  have g2' : decide ((450 : Int) < (v2 : Int)) = false := by simp; omega
  have g3' : decide ((450 : Int) < (v3 : Int)) = false := by simp; omega
  have g4' : decide ((500 : Int) < (n : Int)) = false := by simp; omega
  have hn : n ≤ 100000 := by omega
  go_wp2_with fail
  clear x0 x1 x2 x3 x4 x5
  go_loopw [5] (fun i wr => ∃ j : Nat, j ≤ 2 ∧ i = .int .i64 j ∧ Below w0.heap.size w0 wr) (fun i _ => 2 - (intOf i).toNat)
  case atStart => exact ⟨0, by omega, rfl, Below.refl _ _⟩
  case round =>
    obtain ⟨j, hj, rfl, hbr⟩ := hrel
    obtain ⟨wj, rfl⟩ : ∃ x : World, x = wr := ⟨_, rfl⟩
    by_cases hlt : j < 2
    · have hji : (j : Int) < 2 := by omega
      obtain ⟨x0, x1, x2, x3, x4, x5⟩ := (bs.out.below hbr).cells
      go_wp2_with fail
      refine (h1.out wj (sst.out.to hbr) (rL.out.to hbr) hn).mono ?_
      rintro e w2 ⟨a0, a1, a2, a3, a4, rfl, fa, hb2⟩
      obtain ⟨A0, n0, c0, rfl⟩ := Owns.form3 (fa.own 0 _ _ rfl rfl)
      obtain ⟨A1, n1, c1, rfl⟩ := Owns.form3 (fa.own 1 _ _ rfl rfl)
      obtain ⟨A2, n2, c2, rfl⟩ := Owns.form3 (fa.own 2 _ _ rfl rfl)
      obtain ⟨A3, n3, c3, rfl⟩ := Owns.form3 (fa.own 3 _ _ rfl rfl)
      obtain ⟨A4, n4, c4, rfl⟩ := Owns.form3 (fa.own 4 _ _ rfl rfl)
      have hz2 := hb2.size
      clear x0 x1 x2 x3 x4 x5
      go_upto_region 7 with fail
      have bx := SpBox.new 73 w2 (.slice A0 n0 c0) (.slice A1 n1 c1) (.slice A2 n2 c2) (.slice A3 n3 c3) (.slice A4 n4 c4)
      have hf2 : Below w2.heap.size w2 (w2.alloc (.cells #[.slice A0 n0 c0, .slice A1 n1 c1, .slice A2 n2 c2, .slice A3 n3 c3, .slice A4 n4 c4] 73)) := (Below.refl _ _).alloc (Nat.le_refl _) _
      have hs3 : (w2.alloc (.cells #[.slice A0 n0 c0, .slice A1 n1 c1, .slice A2 n2 c2, .slice A3 n3 c3, .slice A4 n4 c4] 73)).heap.size = w2.heap.size + 1 := by simp
      generalize w2.alloc (.cells #[.slice A0 n0 c0, .slice A1 n1 c1, .slice A2 n2 c2, .slice A3 n3 c3, .slice A4 n4 c4] 73) = w3 at bx hf2 hs3 ⊢
      have fa3 := fa.below hf2
      have hin : ∀ (i : Nat) (u : Value), [Value.slice A0 n0 c0, .slice A1 n1 c1, .slice A2 n2 c2, .slice A3 n3 c3, .slice A4 n4 c4][i]? = some u → ∀ g, u.ownBlock = some g → wj.heap.size ≤ g ∧ g < w2.heap.size := fun i u hu g hg => by
        obtain ⟨l, hl⟩ := getElem_some (l := [l0, l1, l2, l3, l4]) (i := i) (by have := (List.getElem?_eq_some_iff.1 hu).1; simpa using this)
        exact Owns.within (fa.own i u l hu hl) hg
      have hj3 : Below wj.heap.size wj w3 := hb2.trans (hf2.mono hz2)
      have h03 := hbr.trans (hj3.mono hbr.size)
      obtain ⟨x0, x1, x2, x3, x4, x5⟩ := (bs.out.below h03).cells
      clear fa hf2
      go_wp2_with fail
      refine (h2.out w3 (sst.out.to h03) (rL.out.to h03) hn).mono ?_
      rintro e w4 ⟨b0, b1, b2, b3, b4, rfl, fb, hb4⟩
      obtain ⟨B0, m0, d0, rfl⟩ := Owns.form3 (fb.own 0 _ _ rfl rfl)
      obtain ⟨B1, m1, d1, rfl⟩ := Owns.form3 (fb.own 1 _ _ rfl rfl)
      obtain ⟨B2, m2, d2, rfl⟩ := Owns.form3 (fb.own 2 _ _ rfl rfl)
      obtain ⟨B3, m3, d3, rfl⟩ := Owns.form3 (fb.own 3 _ _ rfl rfl)
      obtain ⟨B4, m4, d4, rfl⟩ := Owns.form3 (fb.own 4 _ _ rfl rfl)
      have hz4 := hb4.size
      have bx4 := SpBox.below bx bx.lt hb4
      have fa4 := fa3.below hb4
      clear x0 x1 x2 x3 x4 x5 bx fa3
      go_upto_region 8 with fail
      have by5 := SpBox.new 76 w4 (.slice B0 m0 d0) (.slice B1 m1 d1) (.slice B2 m2 d2) (.slice B3 m3 d3) (.slice B4 m4 d4)
      have bx5 := bx4.alloc (.cells #[.slice B0 m0 d0, .slice B1 m1 d1, .slice B2 m2 d2, .slice B3 m3 d3, .slice B4 m4 d4] 76)
      have fa5 := fa4.alloc (.cells #[.slice B0 m0 d0, .slice B1 m1 d1, .slice B2 m2 d2, .slice B3 m3 d3, .slice B4 m4 d4] 76)
      have fb5 := fb.alloc (.cells #[.slice B0 m0 d0, .slice B1 m1 d1, .slice B2 m2 d2, .slice B3 m3 d3, .slice B4 m4 d4] 76)
      have hbl := (hj3.trans (hb4.mono hj3.size)).alloc (B := wj.heap.size) (by have := hj3.size; omega) (.cells #[.slice B0 m0 d0, .slice B1 m1 d1, .slice B2 m2 d2, .slice B3 m3 d3, .slice B4 m4 d4] 76)
      have hs5 : (w4.alloc (.cells #[.slice B0 m0 d0, .slice B1 m1 d1, .slice B2 m2 d2, .slice B3 m3 d3, .slice B4 m4 d4] 76)).heap.size = w4.heap.size + 1 := by simp
      generalize w4.alloc (.cells #[.slice B0 m0 d0, .slice B1 m1 d1, .slice B2 m2 d2, .slice B3 m3 d3, .slice B4 m4 d4] 76) = y0 at by5 bx5 fa5 fb5 hbl hs5 ⊢
      clear fa4 fb bx4
      have gz : (z != z) = false := by simp
      obtain ⟨s0, s1, s2, s3, s4⟩ := bx5.cells
      obtain ⟨t0, t1, t2, t3, t4⟩ := by5.cells
      have ls := bx5.lt
      have lt := by5.lt
      have hoa := fa5.own 0 _ _ rfl rfl
      have hob := (fb5.own 0 _ _ rfl rfl).row strCell_len
      go_wp2_with fail
      refine (law24_texts A0 B0 n0 m0 c0 d0 wj.heap.size _ _ y0 hoa hob).mono ?_
      rw [eqL_same]
      rintro e y1 ⟨rfl, hg0⟩
      have hr0 := hin 0 _ rfl
      have hgs0 := hg0.size
      replace bx5 := bx5.grown hg0 (fun e => by have := (hr0 _ e).2; omega)
      replace by5 := by5.grown hg0 (fun e => by have := (hr0 _ e).2; omega)
      replace fb5 := fb5.aside hg0 (fun g e => by have := (hr0 _ e).2; omega)
      replace hbl := hbl.grown hg0 (by omega) (fun g e => (hr0 _ e).1)
      replace fa5 := fa5.after hg0
      clear s0 s1 s2 s3 s4 t0 t1 t2 t3 t4 ls lt hoa hob hg0 hr0
      obtain ⟨s0, s1, s2, s3, s4⟩ := bx5.cells
      obtain ⟨t0, t1, t2, t3, t4⟩ := by5.cells
      have ls := bx5.lt
      have lt := by5.lt
      have hoa := fa5.own 0 _ _ rfl rfl
      have hob := (fb5.own 1 _ _ rfl rfl).row strCell_len
      go_wp2_with fail
      refine (law24_texts A1 B1 n1 m1 c1 d1 wj.heap.size _ _ y1 hoa hob).mono ?_
      rw [eqL_same]
      rintro e y2 ⟨rfl, hg1⟩
      have hr1 := hin 1 _ rfl
      have hgs1 := hg1.size
      replace bx5 := bx5.grown hg1 (fun e => by have := (hr1 _ e).2; omega)
      replace by5 := by5.grown hg1 (fun e => by have := (hr1 _ e).2; omega)
      replace fb5 := fb5.aside hg1 (fun g e => by have := (hr1 _ e).2; omega)
      replace hbl := hbl.grown hg1 (by omega) (fun g e => (hr1 _ e).1)
      replace fa5 := fa5.after hg1
      clear s0 s1 s2 s3 s4 t0 t1 t2 t3 t4 ls lt hoa hob hg1 hr1
      obtain ⟨s0, s1, s2, s3, s4⟩ := bx5.cells
      obtain ⟨t0, t1, t2, t3, t4⟩ := by5.cells
      have ls := bx5.lt
      have lt := by5.lt
      have hoa := fa5.own 0 _ _ rfl rfl
      have hob := (fb5.own 2 _ _ rfl rfl).row strCell_len
      go_wp2_with fail
      refine (law24_texts A2 B2 n2 m2 c2 d2 wj.heap.size _ _ y2 hoa hob).mono ?_
      rw [eqL_same]
      rintro e y3 ⟨rfl, hg2⟩
      have hr2 := hin 2 _ rfl
      have hgs2 := hg2.size
      replace bx5 := bx5.grown hg2 (fun e => by have := (hr2 _ e).2; omega)
      replace by5 := by5.grown hg2 (fun e => by have := (hr2 _ e).2; omega)
      replace fb5 := fb5.aside hg2 (fun g e => by have := (hr2 _ e).2; omega)
      replace hbl := hbl.grown hg2 (by omega) (fun g e => (hr2 _ e).1)
      replace fa5 := fa5.after hg2
      clear s0 s1 s2 s3 s4 t0 t1 t2 t3 t4 ls lt hoa hob hg2 hr2
      obtain ⟨s0, s1, s2, s3, s4⟩ := bx5.cells
      obtain ⟨t0, t1, t2, t3, t4⟩ := by5.cells
      have ls := bx5.lt
      have lt := by5.lt
      have hoa := fa5.own 0 _ _ rfl rfl
      have hob := (fb5.own 3 _ _ rfl rfl).row strCell_len
      go_wp2_with fail
      refine (law24_texts A3 B3 n3 m3 c3 d3 wj.heap.size _ _ y3 hoa hob).mono ?_
      rw [eqL_same]
      rintro e y4 ⟨rfl, hg3⟩
      have hr3 := hin 3 _ rfl
      have hgs3 := hg3.size
      replace bx5 := bx5.grown hg3 (fun e => by have := (hr3 _ e).2; omega)
      replace by5 := by5.grown hg3 (fun e => by have := (hr3 _ e).2; omega)
      replace fb5 := fb5.aside hg3 (fun g e => by have := (hr3 _ e).2; omega)
      replace hbl := hbl.grown hg3 (by omega) (fun g e => (hr3 _ e).1)
      replace fa5 := fa5.after hg3
      clear s0 s1 s2 s3 s4 t0 t1 t2 t3 t4 ls lt hoa hob hg3 hr3
      obtain ⟨s0, s1, s2, s3, s4⟩ := bx5.cells
      obtain ⟨t0, t1, t2, t3, t4⟩ := by5.cells
      have ls := bx5.lt
      have lt := by5.lt
      have hoa := fa5.own 0 _ _ rfl rfl
      have hob := (fb5.own 4 _ _ rfl rfl).row strCell_len
      go_wp2_with fail
      refine (law24_texts A4 B4 n4 m4 c4 d4 wj.heap.size _ _ y4 hoa hob).mono ?_
      rw [eqL_same]
      rintro e y5 ⟨rfl, hg4⟩
      have hr4 := hin 4 _ rfl
      have hgs4 := hg4.size
      replace bx5 := bx5.grown hg4 (fun e => by have := (hr4 _ e).2; omega)
      replace by5 := by5.grown hg4 (fun e => by have := (hr4 _ e).2; omega)
      replace fb5 := fb5.aside hg4 (fun g e => by have := (hr4 _ e).2; omega)
      replace hbl := hbl.grown hg4 (by omega) (fun g e => (hr4 _ e).1)
      replace fa5 := fa5.after hg4
      clear s0 s1 s2 s3 s4 t0 t1 t2 t3 t4 ls lt hoa hob hg4 hr4
      go_wp2_with fail
      go_roundw
      case rel => exact ⟨j + 1, by omega, by go_num, hbr.trans (hbl.mono hbr.size)⟩
      case measure => simp [intOf]; omega
    · obtain rfl : j = 2 := by omega
      have f3 := fw.trans (hbr.mono fw.size)
      go_wp2_with fail
      refine (law24_awake _).mono ?_
      rintro e w1 ⟨rfl, hb1⟩
      go_wp2_with fail
      go_ret
      exact ⟨rfl, f3.trans (hb1.mono f3.size)⟩
end Go.Proofs.Ytcepdigeimedoaa
