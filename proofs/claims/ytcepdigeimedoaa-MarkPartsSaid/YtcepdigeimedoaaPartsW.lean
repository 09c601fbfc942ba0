/-
  The walk of MarkParts.
-/
import Derived.Test.YtcepdigeimedoaaPartsL
import Derived.Test.YtcepdigeimedoaaMarkG
namespace Go.Proofs.Ytcepdigeimedoaa
open Go.RowKit
attribute [local go_sem ↓] Go.wp_at_zero Go.wp_at_succ

set_option maxHeartbeats 1000000 in
theorem ref24_Has_same (A : Option Addr) (n c : Nat) (l : List ByteArray) (d : ByteArray) (w : World) (h : StrsAt w w.heap.size A n l) :
    Calls Try.prog 81 #[.slice A n c, .string d] w fun e w' => e = .returned (.bool (decide (d ∈ l))) ∧ w' = w := by
  have hn := h.2.1
  have hl := Lib.hid h.1
  go_enter Try.func81, Try.ntmps81
  go_wp2
  go_loopw [5] (fun i wr => ∃ k : Nat, k ≤ n ∧ i = .int .i64 k ∧ wr = w ∧ Hid (d ∉ l.take k)) (fun i _ => n - (intOf i).toNat)
  case atStart => exact ⟨0, Nat.zero_le _, rfl, rfl, by simp [Hid]⟩
  case round =>
    obtain ⟨k, hk, rfl, rfl, hr⟩ := hrel
    by_cases hlt : k < n
    · obtain ⟨b, off, s, rfl, hb1, hx, h0⟩ := h.str hlt
      by_cases hq : s = d
      · have hs := str_eq hq
        have hin : Hid (d ∈ l) := by unfold Hid; rw [← hq]; exact List.mem_of_getElem? hx
        replace hq := Lib.hid hq
        replace hx := Lib.hid hx
        go_wp2
        go_ret
        exact ⟨ret_bool (by simp [hin.out]), rfl⟩
      · have hs := str_ne hq
        have hr' : Hid (d ∉ l.take (k + 1)) := by unfold Hid; rw [mem_take_succ hx]; exact not_or.2 ⟨hr.out, fun e => hq e.symm⟩
        replace hq := Lib.hid hq
        replace hx := Lib.hid hx
        go_wp2
        go_roundw
        case rel => exact ⟨k + 1, by omega, by go_num, trivial, hr'⟩
        case measure => simp [intOf]; omega
    · obtain rfl : k = n := by omega
      have ht : l.take k = l := List.take_of_length_le (by have := hl.out; omega)
      rw [ht] at hr
      replace ht := Lib.hid ht
      go_wp2
      go_ret
      exact ⟨ret_bool (by simp [hr.out]), rfl⟩
set_option maxHeartbeats 1000000 in
theorem law24_in (A : Option Addr) (n c : Nat) (l : List ByteArray) (d : ByteArray) (w : World) (h : StrsAt w w.heap.size A n l) :
    Calls Try.prog 46 #[.slice A n c, .string d] w fun e w' => e = .returned (.bool (decide (d ∈ l))) ∧ w' = w := by
  go_enter Try.func46, Try.ntmps46
  go_wp2_with fail
  refine (ref24_Has_same A n c l d w h).mono ?_
  rintro e w1 ⟨rfl, rfl⟩
  go_wp2_with fail
  go_ret
  exact ⟨rfl, rfl⟩
theorem below_more {B : Nat} {w0 w : World} (h : Below B w0 w) (q : Nat) : Below B w0 (w.drewN q) := ⟨h.os, h.tape, h.output, h.size, h.block⟩

set_option maxHeartbeats 16000000 in
set_option maxRecDepth 100000 in
theorem markParts_walk (v : Rws) (s : St) (A : Option Addr) (n c : Nat) (L : List ByteArray) (w : World) (h : StAt w w.heap.size v s) (hL : StrsAt w w.heap.size A n L) (hLs : ∀ x ∈ L, x.size ≤ maxLen) :
    Calls Try.prog 11 #[v.val s, .slice A n c] w fun e w' => e = .returned (.bool true) ∧ Below w.heap.size w w' := by
  have hst := Lib.hid h
  have h1 := fun W hs hl (hn : n ≤ 100000) => mark_Of v s A n c L W hs hl hLs hn
  have hres : (mayIdx s.cs s.ps = false ∧ markRes s L = (⟨[], [], [], [], []⟩, 4)) ∨ (mayIdx s.cs s.ps = true ∧ markRes s L = (markSp s L, 0)) := by
    cases hm : mayIdx s.cs s.ps
    · exact .inl ⟨rfl, markRes_no hm⟩
    · exact .inr ⟨rfl, markRes_ok hm⟩
  have h3 := fun (hm : mayIdx s.cs s.ps = true) W hs hl (hn : v.n2 ≤ 100000) => mark_Of v s v.A2 v.n2 v.c2 s.cs W hs hl (chunk_size hm) hn
  have h4 := fun (i : Nat) (c : ByteArray) (p : Place) (hm : mayIdx s.cs s.ps = true) (hc : s.cs[i]? = some c) (hp : s.ps[i]? = some p) => parts_four L hm hc hp
  have h5 := parts_len (s := s) (L := L)
  obtain ⟨⟨⟨l0, l1, l2, l3, l4⟩, z⟩, hz⟩ : ∃ x, x = markRes s L := ⟨_, rfl⟩
  rw [← hz] at h1 hres
  have h3r : mayIdx s.cs s.ps = true → (markRes s s.cs).2 = 0 ∧ (markRes s s.cs).1.gone = [] ∧ (markRes s s.cs).1.stale = [] ∧ (markRes s s.cs).1.dead = [] ∧ (markRes s s.cs).1.moved = [] := fun hm => by
    rw [markRes_ok hm]
    exact ⟨rfl, all_none hm⟩
  obtain ⟨⟨⟨g0, g1, g2, g3, g4⟩, y⟩, hy⟩ : ∃ x, x = markRes s s.cs := ⟨_, rfl⟩
  rw [← hy] at h3 h3r
  obtain ⟨X, hX⟩ : ∃ x, x = markSp s L := ⟨_, rfl⟩
  rw [← hX] at hres h4 h5
  clear hz hy hX
  obtain ⟨k, nn, next, sn, cs, ps⟩ := s
  obtain ⟨V1, v1, q1, V2, v2, q2, V3, v3, q3⟩ := v
  have hM := fun W (hs : StAt W W.heap.size ⟨V1, v1, q1, V2, v2, q2, V3, v3, q3⟩ ⟨k, nn, next, sn, cs, ps⟩) => index_May k nn next V1 v1 q1 V2 v2 q2 V3 v3 q3 cs ps W hs.cs hs.ps hs.ok
  unfold stv at hM
  unfold Rws.val stv at h1 h3
  unfold Rws.val stv
  dsimp only [Sp.lists] at h1 h3 h3r h4 h5 hres ⊢
  have bs := Lib.hid (BoxAt.new w k nn next (.slice V1 v1 q1) (.slice V2 v2 q2) (.slice V3 v3 q3))
  have fw : Below w.heap.size w (w.alloc (.cells #[.int .i64 k, .int .i64 nn, .int .i64 next, .slice V1 v1 q1, .slice V2 v2 q2, .slice V3 v3 q3] 71)) := (Below.refl _ _).alloc (Nat.le_refl _) _
  have sst := Lib.hid (hst.out.to fw)
  have rL := Lib.hid (hL.to fw)
  replace h1 := Lib.hid h1
  replace h3 := Lib.hid h3
  replace h3r := Lib.hid h3r
  replace h4 := Lib.hid h4
  replace h5 := Lib.hid h5
  replace hM := Lib.hid hM
  replace hres := Lib.hid hres
  clear h hst hL
  go_enter Try.func11, Try.ntmps11
  go_upto_region 1 with fail
  generalize w.alloc (.cells #[.int .i64 k, .int .i64 nn, .int .i64 next, .slice V1 v1 q1, .slice V2 v2 q2, .slice V3 v3 q3] 71) = w0 at bs fw sst rL ⊢
  obtain ⟨x0, x1, x2, x3, x4, x5⟩ := bs.out.cells
  by_cases hbig : 450 < v2 ∨ 450 < v3 ∨ 500 < n
  · by_cases b0 : 450 < v2
    · have s0 : decide ((450 : Int) < (v2 : Int)) = true := by simp; omega
      go_wp2_with fail
      refine (law24_awake _).mono ?_
      rintro e w1 ⟨rfl, hb1⟩
      go_wp2_with fail
      go_ret
      exact ⟨rfl, fw.trans (hb1.mono fw.size)⟩
    · have s0 : decide ((450 : Int) < (v2 : Int)) = false := by simp; omega
      by_cases b1 : 450 < v3
      · have s1 : decide ((450 : Int) < (v3 : Int)) = true := by simp; omega
        go_wp2_with fail
        refine (law24_awake _).mono ?_
        rintro e w1 ⟨rfl, hb1⟩
        go_wp2_with fail
        go_ret
        exact ⟨rfl, fw.trans (hb1.mono fw.size)⟩
      · have s1 : decide ((450 : Int) < (v3 : Int)) = false := by simp; omega
        have s2 : decide ((500 : Int) < (n : Int)) = true := by simp; omega
        go_wp2_with fail
        refine (law24_awake _).mono ?_
        rintro e w1 ⟨rfl, hb1⟩
        go_wp2_with fail
        go_ret
        exact ⟨rfl, fw.trans (hb1.mono fw.size)⟩
  have s0 : decide ((450 : Int) < (v2 : Int)) = false := by simp; omega
  have s1 : decide ((450 : Int) < (v3 : Int)) = false := by simp; omega
  have s2 : decide ((500 : Int) < (n : Int)) = false := by simp; omega
  have hn : n ≤ 500 := by omega
  go_wp2_with fail
  refine (law24_awake _).mono ?_
  rintro e w1 ⟨rfl, hb1⟩
  replace bs := Lib.hid (bs.out.below hb1)
  replace sst := Lib.hid (sst.out.to hb1)
  replace rL := Lib.hid (rL.out.to hb1)
  replace fw := fw.trans (hb1.mono fw.size)
  clear x0 x1 x2 x3 x4 x5
  obtain ⟨x0, x1, x2, x3, x4, x5⟩ := bs.out.cells
  go_wp2_with fail
  refine (h1.out w1 sst.out rL.out (by omega)).mono ?_
  rintro e w2 ⟨a0, a1, a2, a3, a4, rfl, fa, hb2⟩
  obtain ⟨A0, n0, c0, rfl⟩ := Owns.form3 (fa.own 0 _ _ rfl rfl)
  obtain ⟨A1, n1, c1, rfl⟩ := Owns.form3 (fa.own 1 _ _ rfl rfl)
  obtain ⟨A2, n2, c2, rfl⟩ := Owns.form3 (fa.own 2 _ _ rfl rfl)
  obtain ⟨A3, n3, c3, rfl⟩ := Owns.form3 (fa.own 3 _ _ rfl rfl)
  obtain ⟨A4, n4, c4, rfl⟩ := Owns.form3 (fa.own 4 _ _ rfl rfl)
  have hz2 := hb2.size
  clear x0 x1 x2 x3 x4 x5
  go_upto_region 4 with fail
  have bax := SpBox.new 73 w2 (.slice A0 n0 c0) (.slice A1 n1 c1) (.slice A2 n2 c2) (.slice A3 n3 c3) (.slice A4 n4 c4)
  have hf2 : Below w2.heap.size w2 (w2.alloc (.cells #[.slice A0 n0 c0, .slice A1 n1 c1, .slice A2 n2 c2, .slice A3 n3 c3, .slice A4 n4 c4] 73)) := (Below.refl _ _).alloc (Nat.le_refl _) _
  have hbx : Below w1.heap.size w1 (w2.alloc (.cells #[.slice A0 n0 c0, .slice A1 n1 c1, .slice A2 n2 c2, .slice A3 n3 c3, .slice A4 n4 c4] 73)) := hb2.trans (hf2.mono hz2)
  generalize w2.alloc (.cells #[.slice A0 n0 c0, .slice A1 n1 c1, .slice A2 n2 c2, .slice A3 n3 c3, .slice A4 n4 c4] 73) = w4 at bax hf2 hbx ⊢
  replace bs := Lib.hid (bs.out.below hbx)
  replace sst := Lib.hid (sst.out.to hbx)
  replace rL := Lib.hid (rL.out.to hbx)
  replace fw := fw.trans (hbx.mono fw.size)
  have rp0 := Lib.hid (((fa.own 0 _ _ rfl rfl).row strCell_len).to hf2)
  have rp1 := Lib.hid (((fa.own 1 _ _ rfl rfl).row strCell_len).to hf2)
  have rp2 := Lib.hid (((fa.own 2 _ _ rfl rfl).row strCell_len).to hf2)
  have rp3 := Lib.hid (((fa.own 3 _ _ rfl rfl).row strCell_len).to hf2)
  have rp4 := Lib.hid (((fa.own 4 _ _ rfl rfl).row strCell_len).to hf2)
  replace bax := Lib.hid bax
  clear fa hb2 hbx
  obtain ⟨x0, x1, x2, x3, x4, x5⟩ := bs.out.cells
  rcases hres.out with ⟨hm, he⟩ | ⟨hm, he⟩
  · obtain ⟨_, rfl⟩ := Prod.mk.inj he
    have hM1 := hM.out w4 sst.out
    rw [hm] at hM1
    replace hm := Lib.hid hm
    clear he
    go_wp2_with fail
    refine hM1.mono ?_
    rintro e w5 ⟨rfl, hb5⟩
    go_wp2_with fail
    go_ret
    exact ⟨rfl, fw.trans (hb5.mono fw.size)⟩
  obtain ⟨hX, rfl⟩ := Prod.mk.inj he
  subst hX
  clear he hres
  have lv4 : v2 ≤ 400 := by have := (mayIdx_len hm).2; have := sst.out.cs.1; dsimp only at this; omega
  have v23 : Hid (v2 = v3) := by unfold Hid; have := (mayIdx_len hm).1; have h1 := sst.out.cs.1; have h2 := sst.out.ps.1; dsimp only at h1 h2; omega
  have gl : ((n0 : Int) + (n1 : Int) != (v2 : Int)) = false := by
    have i0 := rp0.out.1
    have i1 := rp1.out.1
    have i2 := h5.out
    have i3 := sst.out.cs.1
    dsimp only at i2 i3
    simp
    omega
  have n0b : n0 ≤ 400 := by simp at gl; omega
  have n1b : n1 ≤ 400 := by simp at gl; omega
  replace hm := Lib.hid hm
  obtain ⟨ga0, ga1, ga2, ga3, ga4⟩ := bax.out.cells
  go_wp2_with fail
  clear x0 x1 x2 x3 x4 x5 ga0 ga1 ga2 ga3 ga4
  go_loopw [7] (fun i wr => ∃ j : Nat, j ≤ v2 ∧ i = .int .i64 j ∧ Below w4.heap.size w4 wr) (fun i _ => v2 - (intOf i).toNat)
  case atStart => exact ⟨0, Nat.zero_le _, rfl, Below.refl _ _⟩
  case round =>
    obtain ⟨j, hj, rfl, hbj⟩ := hrel
    obtain ⟨wj, hwj0⟩ : ∃ x : World, x = wr := ⟨_, rfl⟩
    rw [← hwj0] at hbj ⊢
    clear hwj0
    obtain ⟨x0, x1, x2, x3, x4, x5⟩ := (bs.out.below hbj).cells
    have lx := (bs.out.below hbj).lt
    by_cases hlt : j < v2
    · have hji : (j : Int) < (v2 : Int) := by omega
      obtain ⟨xc, hxc⟩ := getElem_some (l := cs) (i := j) (by have := sst.out.cs.1; dsimp only at this; omega)
      obtain ⟨xp, hxp⟩ := getElem_some (l := ps) (i := j) (by have := sst.out.ps.1; have h9 := v23.out; dsimp only at this; omega)
      have hcV := (sst.out.to hbj).cs
      have hpV := (sst.out.to hbj).ps
      dsimp only at hcV hpV
      obtain ⟨b8, o8, hA8, hb8⟩ := hcV.addrOf hlt
      obtain ⟨b9, o9, hA9, hb9⟩ := hpV.addrOf (by have := v23.out; omega : j < v3)
      subst hA8
      subst hA9
      have y8 := hcV.strAt hxc
      obtain ⟨p0, p1, p2⟩ := hpV.placeAt hxp
      have hj3 : j < v3 := by have := v23.out; omega
      have hj3i : (j : Int) < (v3 : Int) := by omega
      have hway := h4.out j xc xp hm.out hxc hxp
      replace hcV := Lib.hid hcV
      replace hpV := Lib.hid hpV
      replace hxc := Lib.hid hxc
      replace hxp := Lib.hid hxp
      go_upto_region 11 with fail
      go_quiet (fail)
      have hbn : Below w4.heap.size w4 (wj.drewN nq) := below_more hbj nq
      generalize wj.drewN nq = wn at hbn ⊢
      clear x0 x1 x2 x3 x4 x5 lx y8 p0 p1 p2 hb8 hb9
      obtain ⟨ga0, ga1, ga2, ga3, ga4⟩ := (SpBox.below bax.out bax.out.lt hbn).cells
      have lu := (SpBox.below bax.out bax.out.lt hbn).lt
      go_upto_region 12 with fail
      rcases hway with ⟨e0, e1, e4, eL, e2, e3⟩ | ⟨e0, e1, e4, eL, e2, e3⟩ | ⟨e0, e1, e4, eL, e2, e3⟩ | ⟨e0, e1, e4, eL, e2, e3⟩
      · have q0c := fun W (hb : Below w4.heap.size w4 W) => law24_in A0 n0 c0 l0 xc W (rp0.out.to hb)
        have q1c := fun W (hb : Below w4.heap.size w4 W) => law24_in A1 n1 c1 l1 xc W (rp1.out.to hb)
        have q4c := fun W (hb : Below w4.heap.size w4 W) => law24_in A4 n4 c4 l4 xc W (rp4.out.to hb)
        have qLc := fun W (hb : Below w4.heap.size w4 W) => law24_in A n c L xc W (rL.out.to hb)
        have q2p := fun W (hb : Below w4.heap.size w4 W) => law24_in A2 n2 c2 l2 xp.pack W (rp2.out.to hb)
        have q3p := fun W (hb : Below w4.heap.size w4 W) => law24_in A3 n3 c3 l3 xp.pack W (rp3.out.to hb)
        rw [e0] at q0c
        rw [e1] at q1c
        rw [e4] at q4c
        rw [eL] at qLc
        rw [e2] at q2p
        rw [e3] at q3p
        replace q0c := Lib.hid q0c
        replace q1c := Lib.hid q1c
        replace q4c := Lib.hid q4c
        replace qLc := Lib.hid qLc
        replace q2p := Lib.hid q2p
        replace q3p := Lib.hid q3p
        clear e0 e1 e4 eL e2 e3
        go_quiet ((first | (with_reducible exact Calls.quiet_of_same (q0c.out _ (below_more hbn _))) | (with_reducible exact Calls.quiet_of_same (q1c.out _ (below_more hbn _))) | (with_reducible exact Calls.quiet_of_same (q4c.out _ (below_more hbn _))) | (with_reducible exact Calls.quiet_of_same (qLc.out _ (below_more hbn _))) | (with_reducible exact Calls.quiet_of_same (q2p.out _ (below_more hbn _))) | (with_reducible exact Calls.quiet_of_same (q3p.out _ (below_more hbn _)))))
        have hbm : Below w4.heap.size w4 (wn.drewN nq) := below_more hbn nq
        generalize wn.drewN nq = wm at hbm ⊢
        clear ga0 ga1 ga2 ga3 ga4 lu
        obtain ⟨ga0, ga1, ga2, ga3, ga4⟩ := (SpBox.below bax.out bax.out.lt hbm).cells
        have lu := (SpBox.below bax.out bax.out.lt hbm).lt
        go_upto_region 14 with fail
        go_quiet ((first | (with_reducible exact Calls.quiet_of_same (q0c.out _ (below_more hbm _))) | (with_reducible exact Calls.quiet_of_same (q1c.out _ (below_more hbm _))) | (with_reducible exact Calls.quiet_of_same (q4c.out _ (below_more hbm _))) | (with_reducible exact Calls.quiet_of_same (qLc.out _ (below_more hbm _))) | (with_reducible exact Calls.quiet_of_same (q2p.out _ (below_more hbm _))) | (with_reducible exact Calls.quiet_of_same (q3p.out _ (below_more hbm _)))))
        have hbe : Below w4.heap.size w4 (wm.drewN nq) := below_more hbm nq
        go_wp2_with fail
        go_roundw
        case rel => exact ⟨j + 1, by omega, by go_num, hbe⟩
        case measure => simp [intOf]; omega
      · have q0c := fun W (hb : Below w4.heap.size w4 W) => law24_in A0 n0 c0 l0 xc W (rp0.out.to hb)
        have q1c := fun W (hb : Below w4.heap.size w4 W) => law24_in A1 n1 c1 l1 xc W (rp1.out.to hb)
        have q4c := fun W (hb : Below w4.heap.size w4 W) => law24_in A4 n4 c4 l4 xc W (rp4.out.to hb)
        have qLc := fun W (hb : Below w4.heap.size w4 W) => law24_in A n c L xc W (rL.out.to hb)
        have q2p := fun W (hb : Below w4.heap.size w4 W) => law24_in A2 n2 c2 l2 xp.pack W (rp2.out.to hb)
        have q3p := fun W (hb : Below w4.heap.size w4 W) => law24_in A3 n3 c3 l3 xp.pack W (rp3.out.to hb)
        rw [e0] at q0c
        rw [e1] at q1c
        rw [e4] at q4c
        rw [eL] at qLc
        rw [e2] at q2p
        rw [e3] at q3p
        replace q0c := Lib.hid q0c
        replace q1c := Lib.hid q1c
        replace q4c := Lib.hid q4c
        replace qLc := Lib.hid qLc
        replace q2p := Lib.hid q2p
        replace q3p := Lib.hid q3p
        clear e0 e1 e4 eL e2 e3
        go_quiet ((first | (with_reducible exact Calls.quiet_of_same (q0c.out _ (below_more hbn _))) | (with_reducible exact Calls.quiet_of_same (q1c.out _ (below_more hbn _))) | (with_reducible exact Calls.quiet_of_same (q4c.out _ (below_more hbn _))) | (with_reducible exact Calls.quiet_of_same (qLc.out _ (below_more hbn _))) | (with_reducible exact Calls.quiet_of_same (q2p.out _ (below_more hbn _))) | (with_reducible exact Calls.quiet_of_same (q3p.out _ (below_more hbn _)))))
        have hbm : Below w4.heap.size w4 (wn.drewN nq) := below_more hbn nq
        generalize wn.drewN nq = wm at hbm ⊢
        clear ga0 ga1 ga2 ga3 ga4 lu
        obtain ⟨ga0, ga1, ga2, ga3, ga4⟩ := (SpBox.below bax.out bax.out.lt hbm).cells
        have lu := (SpBox.below bax.out bax.out.lt hbm).lt
        go_upto_region 14 with fail
        go_quiet ((first | (with_reducible exact Calls.quiet_of_same (q0c.out _ (below_more hbm _))) | (with_reducible exact Calls.quiet_of_same (q1c.out _ (below_more hbm _))) | (with_reducible exact Calls.quiet_of_same (q4c.out _ (below_more hbm _))) | (with_reducible exact Calls.quiet_of_same (qLc.out _ (below_more hbm _))) | (with_reducible exact Calls.quiet_of_same (q2p.out _ (below_more hbm _))) | (with_reducible exact Calls.quiet_of_same (q3p.out _ (below_more hbm _)))))
        have hbe : Below w4.heap.size w4 (wm.drewN nq) := below_more hbm nq
        go_wp2_with fail
        go_roundw
        case rel => exact ⟨j + 1, by omega, by go_num, hbe⟩
        case measure => simp [intOf]; omega
      · have q0c := fun W (hb : Below w4.heap.size w4 W) => law24_in A0 n0 c0 l0 xc W (rp0.out.to hb)
        have q1c := fun W (hb : Below w4.heap.size w4 W) => law24_in A1 n1 c1 l1 xc W (rp1.out.to hb)
        have q4c := fun W (hb : Below w4.heap.size w4 W) => law24_in A4 n4 c4 l4 xc W (rp4.out.to hb)
        have qLc := fun W (hb : Below w4.heap.size w4 W) => law24_in A n c L xc W (rL.out.to hb)
        have q2p := fun W (hb : Below w4.heap.size w4 W) => law24_in A2 n2 c2 l2 xp.pack W (rp2.out.to hb)
        have q3p := fun W (hb : Below w4.heap.size w4 W) => law24_in A3 n3 c3 l3 xp.pack W (rp3.out.to hb)
        rw [e0] at q0c
        rw [e1] at q1c
        rw [e4] at q4c
        rw [eL] at qLc
        rw [e2] at q2p
        rw [e3] at q3p
        replace q0c := Lib.hid q0c
        replace q1c := Lib.hid q1c
        replace q4c := Lib.hid q4c
        replace qLc := Lib.hid qLc
        replace q2p := Lib.hid q2p
        replace q3p := Lib.hid q3p
        clear e0 e1 e4 eL e2 e3
        go_quiet ((first | (with_reducible exact Calls.quiet_of_same (q0c.out _ (below_more hbn _))) | (with_reducible exact Calls.quiet_of_same (q1c.out _ (below_more hbn _))) | (with_reducible exact Calls.quiet_of_same (q4c.out _ (below_more hbn _))) | (with_reducible exact Calls.quiet_of_same (qLc.out _ (below_more hbn _))) | (with_reducible exact Calls.quiet_of_same (q2p.out _ (below_more hbn _))) | (with_reducible exact Calls.quiet_of_same (q3p.out _ (below_more hbn _)))))
        have hbm : Below w4.heap.size w4 (wn.drewN nq) := below_more hbn nq
        generalize wn.drewN nq = wm at hbm ⊢
        clear ga0 ga1 ga2 ga3 ga4 lu
        obtain ⟨ga0, ga1, ga2, ga3, ga4⟩ := (SpBox.below bax.out bax.out.lt hbm).cells
        have lu := (SpBox.below bax.out bax.out.lt hbm).lt
        go_upto_region 14 with fail
        go_quiet ((first | (with_reducible exact Calls.quiet_of_same (q0c.out _ (below_more hbm _))) | (with_reducible exact Calls.quiet_of_same (q1c.out _ (below_more hbm _))) | (with_reducible exact Calls.quiet_of_same (q4c.out _ (below_more hbm _))) | (with_reducible exact Calls.quiet_of_same (qLc.out _ (below_more hbm _))) | (with_reducible exact Calls.quiet_of_same (q2p.out _ (below_more hbm _))) | (with_reducible exact Calls.quiet_of_same (q3p.out _ (below_more hbm _)))))
        have hbe : Below w4.heap.size w4 (wm.drewN nq) := below_more hbm nq
        go_wp2_with fail
        go_roundw
        case rel => exact ⟨j + 1, by omega, by go_num, hbe⟩
        case measure => simp [intOf]; omega
      · have q0c := fun W (hb : Below w4.heap.size w4 W) => law24_in A0 n0 c0 l0 xc W (rp0.out.to hb)
        have q1c := fun W (hb : Below w4.heap.size w4 W) => law24_in A1 n1 c1 l1 xc W (rp1.out.to hb)
        have q4c := fun W (hb : Below w4.heap.size w4 W) => law24_in A4 n4 c4 l4 xc W (rp4.out.to hb)
        have qLc := fun W (hb : Below w4.heap.size w4 W) => law24_in A n c L xc W (rL.out.to hb)
        have q2p := fun W (hb : Below w4.heap.size w4 W) => law24_in A2 n2 c2 l2 xp.pack W (rp2.out.to hb)
        have q3p := fun W (hb : Below w4.heap.size w4 W) => law24_in A3 n3 c3 l3 xp.pack W (rp3.out.to hb)
        rw [e0] at q0c
        rw [e1] at q1c
        rw [e4] at q4c
        rw [eL] at qLc
        rw [e2] at q2p
        rw [e3] at q3p
        replace q0c := Lib.hid q0c
        replace q1c := Lib.hid q1c
        replace q4c := Lib.hid q4c
        replace qLc := Lib.hid qLc
        replace q2p := Lib.hid q2p
        replace q3p := Lib.hid q3p
        clear e0 e1 e4 eL e2 e3
        go_quiet ((first | (with_reducible exact Calls.quiet_of_same (q0c.out _ (below_more hbn _))) | (with_reducible exact Calls.quiet_of_same (q1c.out _ (below_more hbn _))) | (with_reducible exact Calls.quiet_of_same (q4c.out _ (below_more hbn _))) | (with_reducible exact Calls.quiet_of_same (qLc.out _ (below_more hbn _))) | (with_reducible exact Calls.quiet_of_same (q2p.out _ (below_more hbn _))) | (with_reducible exact Calls.quiet_of_same (q3p.out _ (below_more hbn _)))))
        have hbm : Below w4.heap.size w4 (wn.drewN nq) := below_more hbn nq
        generalize wn.drewN nq = wm at hbm ⊢
        clear ga0 ga1 ga2 ga3 ga4 lu
        obtain ⟨ga0, ga1, ga2, ga3, ga4⟩ := (SpBox.below bax.out bax.out.lt hbm).cells
        have lu := (SpBox.below bax.out bax.out.lt hbm).lt
        go_upto_region 14 with fail
        go_quiet ((first | (with_reducible exact Calls.quiet_of_same (q0c.out _ (below_more hbm _))) | (with_reducible exact Calls.quiet_of_same (q1c.out _ (below_more hbm _))) | (with_reducible exact Calls.quiet_of_same (q4c.out _ (below_more hbm _))) | (with_reducible exact Calls.quiet_of_same (qLc.out _ (below_more hbm _))) | (with_reducible exact Calls.quiet_of_same (q2p.out _ (below_more hbm _))) | (with_reducible exact Calls.quiet_of_same (q3p.out _ (below_more hbm _)))))
        have hbe : Below w4.heap.size w4 (wm.drewN nq) := below_more hbm nq
        go_wp2_with fail
        go_roundw
        case rel => exact ⟨j + 1, by omega, by go_num, hbe⟩
        case measure => simp [intOf]; omega
    · obtain rfl : j = v2 := by omega
      obtain ⟨iz, i1, i2, i3, i4⟩ := h3r.out hm.out
      subst iz
      subst i1
      subst i2
      subst i3
      subst i4
      have h33 := h3.out hm.out wj (sst.out.to hbj) (sst.out.to hbj).cs (by omega)
      go_wp2_with fail
      refine h33.mono ?_
      rintro e w6 ⟨d0, d1, d2, d3, d4, rfl, fb, hb6⟩
      obtain ⟨D0, m0, t0, rfl⟩ := Owns.form3 (fb.own 0 _ _ rfl rfl)
      obtain ⟨D1, m1', t1, rfl⟩ := Owns.form3 (fb.own 1 _ _ rfl rfl)
      obtain rfl : m1' = 0 := ((fb.own 1 _ _ rfl rfl).row strCell_len).1.symm
      obtain ⟨D2, m2', t2, rfl⟩ := Owns.form3 (fb.own 2 _ _ rfl rfl)
      obtain rfl : m2' = 0 := ((fb.own 2 _ _ rfl rfl).row strCell_len).1.symm
      obtain ⟨D3, m3', t3, rfl⟩ := Owns.form3 (fb.own 3 _ _ rfl rfl)
      obtain rfl : m3' = 0 := ((fb.own 3 _ _ rfl rfl).row strCell_len).1.symm
      obtain ⟨D4, m4', t4, rfl⟩ := Owns.form3 (fb.own 4 _ _ rfl rfl)
      obtain rfl : m4' = 0 := ((fb.own 4 _ _ rfl rfl).row strCell_len).1.symm
      have hb46 := hbj.trans (hb6.mono hbj.size)
      clear x0 x1 x2 x3 x4 x5 lx fb h33
      go_upto_region 17 with fail
      have by0 := SpBox.new 73 w6 (.slice D0 m0 t0) (.slice D1 0 t1) (.slice D2 0 t2) (.slice D3 0 t3) (.slice D4 0 t4)
      have hf6 : Below w6.heap.size w6 (w6.alloc (.cells #[.slice D0 m0 t0, .slice D1 0 t1, .slice D2 0 t2, .slice D3 0 t3, .slice D4 0 t4] 73)) := (Below.refl _ _).alloc (Nat.le_refl _) _
      generalize w6.alloc (.cells #[.slice D0 m0 t0, .slice D1 0 t1, .slice D2 0 t2, .slice D3 0 t3, .slice D4 0 t4] 73) = w7 at by0 hf6 ⊢
      have hb47 := hb46.trans (hf6.mono hb46.size)
      obtain ⟨ga0, ga1, ga2, ga3, ga4⟩ := by0.cells
      go_wp2_with fail
      go_ret
      exact ⟨rfl, fw.trans (hb47.mono fw.size)⟩
end Go.Proofs.Ytcepdigeimedoaa
