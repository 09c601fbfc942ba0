/-
  The walk of IndexChanges.
-/
import Derived.Test.YthbmbbbojpdlaaaLargeI
import Derived.Test.YthbmbbbojpdlaaaAddR
import Derived.Test.YthbmbbbojpdlaaaDropR
import Derived.Test.YthbmbbbojpdlaaaCopI
import Derived.Test.YthbmbbbojpdlaaaChgM
import Derived.Test.YthbmbbbojpdlaaaSameB
namespace Go.Proofs.Ythbmbbbojpdlaaa
open Go.RowKit
attribute [local go_sem ↓] Go.wp_at_zero Go.wp_at_succ

/-- A contract that tells a state of rows of the call's own, spelled out. -/
theorem outs {f : FuncId} {args : Array Value} {W : World} {R : St} {z : Int} (h : Calls Try.prog f args W fun e w' => ∃ r : Rws, e = .returned (.tuple #[r.val R, .int .i64 z]) ∧ AddOut W w' r R) :
    Calls Try.prog f args W fun e w' => ∃ (A1 : Option Addr) (n1 c1 : Nat) (A2 : Option Addr) (n2 c2 : Nat) (A3 : Option Addr) (n3 c3 : Nat), e = .returned (.tuple #[.agg #[.int .i64 R.k, .int .i64 R.n, .int .i64 R.next, .slice A1 n1 c1, .slice A2 n2 c2, .slice A3 n3 c3], .int .i64 z]) ∧ AddOut W w' ⟨A1, n1, c1, A2, n2, c2, A3, n3, c3⟩ R :=
  h.mono fun e w' ⟨r, he, ho⟩ => ⟨r.A1, r.n1, r.c1, r.A2, r.n2, r.c2, r.A3, r.n3, r.c3, he, ho⟩
theorem same_self (v v' : Rws) (s : St) (w : World) (h : StAt w w.heap.size v s) (h' : StAt w w.heap.size v' s) :
    Calls Try.prog 17 #[v.val s, v'.val s] w fun e w' => e = .returned (.bool true) ∧ Below w.heap.size w w' := by
  have := ref17_Same v v' s s w h h'
  rwa [sameSt_self] at this

set_option maxHeartbeats 16000000 in
set_option maxRecDepth 100000 in
theorem indexChanges_walk (v : Rws) (s : St) (A : Option Addr) (n c : Nat) (ds : List ByteArray) (A' : Option Addr) (n' c' : Nat) (qs : List Place) (w : World) (h : StAt w w.heap.size v s) (hd : StrsAt w w.heap.size A n ds) (hq : PlacesAt w w.heap.size A' n' qs) (hqok : ∀ p ∈ qs, PlaceOk p) (hr : ReachI v) :
    Calls Try.prog 10 #[v.val s, .slice A n c, .slice A' n' c'] w fun e w' => e = .returned (.bool true) ∧ Below w.heap.size w w' := by
  have hL := Lib.hid (law17_large v s · hr)
  have hC := Lib.hid (fun W (hb : Below w.heap.size w W) => law17_copied v s W (h.to hb))
  have hA2 := Lib.hid (fun hn W (hb : Below w.heap.size w W) => outs (ref17_Add v s A n c ds A' n' c' qs W (h.to hb) (hd.to hb) (hq.to hb) hqok hn))
  have hD2 := Lib.hid (fun hn W (hb : Below w.heap.size w W) => outs (ref17_Drop v s A n c ds W (h.to hb) (hd.to hb) hn))
  have hA1 := Lib.hid (fun (hn : n ≤ 1000) (r : Rws) W (hb : Below w.heap.size w W) (hs : StAt W W.heap.size r s) => outs (index_Add r s A n c ds A' n' c' qs W hs (hd.to hb) (hq.to hb) hqok hn))
  have hD1 := Lib.hid (fun (hn : n ≤ 1000) (r : Rws) W (hb : Below w.heap.size w W) (hs : StAt W W.heap.size r s) => outs (index_Drop r s A n c ds W hs (hd.to hb) hn))
  have hl1 := addIdx_lens s ds qs
  have hl2 := dropIdx_lens s ds
  have hS1 := Lib.hid (fun r r' W h1 h2 => same_self r r' (addIdx s ds qs).1 W h1 h2)
  have hS2 := Lib.hid (fun r r' W h1 h2 => same_self r r' (dropIdx s ds).1 W h1 h2)
  have hS3 := Lib.hid (fun r r' W h1 h2 => same_self r r' s W h1 h2)
  obtain ⟨⟨⟨k1, nn1, next1, sn1, cs1, ps1⟩, z1⟩, hx1⟩ : ∃ x, x = addIdx s ds qs := ⟨_, rfl⟩
  obtain ⟨⟨⟨k2, nn2, next2, sn2, cs2, ps2⟩, z2⟩, hx2⟩ : ∃ x, x = dropIdx s ds := ⟨_, rfl⟩
  rw [← hx1] at hA1 hA2 hl1 hS1
  rw [← hx2] at hD1 hD2 hl2 hS2
  clear hx1 hx2
  obtain ⟨k, nn, next, sn, cs, ps⟩ := s
  obtain ⟨A1, n1, c1, A2, n2, c2, A3, n3, c3⟩ := v
  have hst := Lib.hid h
  unfold Rws.val stv at hA1 hA2 hD1 hD2 hL hC hS1 hS2 hS3
  unfold Rws.val stv
  dsimp only at hA1 hA2 hD1 hD2 hL hC hl1 hl2 hS1 hS2 hS3 ⊢
  replace hl1 := Lib.hid hl1
  replace hl2 := Lib.hid hl2
  have hlg : Hid (largeI ⟨A1, n1, c1, A2, n2, c2, A3, n3, c3⟩ = (decide (2000 < n2 + n3) || decide (2000 < n1))) := rfl
  clear h hr hqok hd hq
  have bs := Lib.hid (BoxAt.new w k nn next (.slice A1 n1 c1) (.slice A2 n2 c2) (.slice A3 n3 c3))
  have f0 : Below w.heap.size w (w.alloc (stBox k nn next A1 n1 c1 A2 n2 c2 A3 n3 c3)) := (Below.refl _ _).alloc (Nat.le_refl _) _
  go_enter Try.func10, Try.ntmps10
  go_wp2_with fail
  refine (hL.out _).mono ?_
  cases hlarge : largeI ⟨A1, n1, c1, A2, n2, c2, A3, n3, c3⟩
  · rintro e w1 ⟨rfl, hb1⟩
    rw [hlg.out, Bool.or_eq_false_iff] at hlarge
    have hm1 : n1 ≤ 2000 := by have := hlarge.2; simp at this; omega
    have hm2 : n2 ≤ 2000 := by have := hlarge.1; simp at this; omega
    have hm3 : n3 ≤ 2000 := by have := hlarge.1; simp at this; omega
    clear hlarge
    have hz1 := hb1.size
    simp at hz1
    have f1 : Below w.heap.size w w1 := f0.trans (hb1.mono (by simp))
    have b1 := bs.out.below hb1
    obtain ⟨x0, x1, x2, x3, x4, x5⟩ := b1.cells
    replace b1 := Lib.hid b1
    clear hb1
    by_cases h500 : 500 < n
    · have g1 : decide ((500 : Int) < (n : Int)) = true := by simp; omega
      go_wp2_with fail
      go_ret
      exact ⟨rfl, f1⟩
    have g1 : decide ((500 : Int) < (n : Int)) = false := by simp; omega
    by_cases h501 : 500 < n'
    · have g2 : decide ((500 : Int) < (n' : Int)) = true := by simp; omega
      go_wp2_with fail
      go_ret
      exact ⟨rfl, f1⟩
    have g2 : decide ((500 : Int) < (n' : Int)) = false := by simp; omega
    go_wp2_with fail
    refine (hC.out _ f1 hm1 hm2 hm3).mono ?_
    rintro e w2 ⟨⟨B1, m1, d1, B2, m2, d2, B3, m3, d3⟩, rfl, hst2, hb2⟩
    have f2 := f1.trans (hb2.mono (by omega))
    have hz2 := hb2.size
    have b2 := b1.out.below hb2
    dsimp only [Rws.val, stv]
    have hl12 : w.heap.size < w2.heap.size := by omega
    clear x0 x1 x2 x3 x4 x5 hb2 b1
    obtain ⟨b7, hb7⟩ : ∃ x, x = w2.heap.size := ⟨_, rfl⟩
    obtain ⟨w3, hw3⟩ : ∃ x, x = w2.alloc (.cells #[.int .i64 k, .int .i64 nn, .int .i64 next, .slice B1 m1 d1, .slice B2 m2 d2, .slice B3 m3 d3] 28) := ⟨_, rfl⟩
    have b3 : Hid (BoxAt w3 w.heap.size k nn next (.slice A1 n1 c1) (.slice A2 n2 c2) (.slice A3 n3 c3)) := by rw [hw3]; exact b2.alloc _
    have i3 : Hid (BoxAt w3 b7 k nn next (.slice B1 m1 d1) (.slice B2 m2 d2) (.slice B3 m3 d3)) := by rw [hw3, hb7]; exact BoxAt.new w2 _ _ _ _ _ _
    have hf23 : Below w2.heap.size w2 w3 := by rw [hw3]; exact (Below.refl _ _).alloc (Nat.le_refl _) _
    have f3 := f2.trans (hf23.mono (by omega))
    have st3 := Lib.hid (hst2.to hf23)
    have hz3 : b7 < w3.heap.size := i3.out.lt
    have hl13 : w.heap.size < b7 := by omega
    clear hst2 hf23 b2
    replace hb7 := Lib.hid hb7
    replace hw3 := Lib.hid hw3
    go_wp2_with fail
    rw [← hb7.out, ← hw3.out]
    go_loopw [8] (fun i wr => ∃ r : Nat, r ≤ 2 ∧ i = .int .i64 r ∧ Below w3.heap.size w3 wr) (fun i _ => 2 - (intOf i).toNat)
    case atStart => exact ⟨0, by omega, rfl, Below.refl _ _⟩
    case round =>
      obtain ⟨r, hr2, rfl, hbr⟩ := hrel
      obtain ⟨wi, rfl⟩ : ∃ x : World, x = wr := ⟨_, rfl⟩
      have hzr := hbr.size
      have fi : Below w.heap.size w wi := f3.trans (hbr.mono (by omega))
      by_cases hrr : r < 2
      · have hri : (r : Int) < 2 := by omega
        have bi := Lib.hid (b3.out.below hbr)
        have ii := Lib.hid (i3.out.below hbr)
        have sti := Lib.hid (st3.out.to hbr)
        have g9 : (z1 != z1) = false := by simp
        have g10 : (z2 != z2) = false := by simp
        obtain ⟨y0, y1, y2, y3, y4, y5⟩ := ii.out.cells
        go_wp2_with fail
        refine (hA1.out (by omega) ⟨B1, m1, d1, B2, m2, d2, B3, m3, d3⟩ wi fi sti.out).mono ?_
        rintro e w4 ⟨P1, Pl1, Pc1, P2, Pl2, Pc2, P3, Pl3, Pc3, rfl, how4⟩
        obtain ⟨b9, hb9⟩ : ∃ x, x = w4.heap.size := ⟨_, rfl⟩
        obtain ⟨u4, hu4⟩ : ∃ x, x = w4.alloc (.cells #[.int .i64 k1, .int .i64 nn1, .int .i64 next1, .slice P1 Pl1 Pc1, .slice P2 Pl2 Pc2, .slice P3 Pl3 Pc3] 28) := ⟨_, rfl⟩
        have xb9 : Hid (BoxAt u4 b9 k1 nn1 next1 (.slice P1 Pl1 Pc1) (.slice P2 Pl2 Pc2) (.slice P3 Pl3 Pc3)) := by rw [hu4, hb9]; exact BoxAt.new w4 _ _ _ _ _ _
        have hfu4 : Below w4.heap.size w4 u4 := by rw [hu4]; exact (Below.refl _ _).alloc (Nat.le_refl _) _
        have hbu4 : Below wi.heap.size wi u4 := how4.below.trans (hfu4.mono how4.below.size)
        have tu4 := Lib.hid (how4.st.to hfu4)
        have w4u4 : Hid (Wrt 1 u4 wi.heap.size b9 P2 Pl2) := by have := (how4.o2.wrt (by decide)).below hfu4; rwa [← hb9] at this
        have w5u4 : Hid (Wrt 3 u4 wi.heap.size b9 P3 Pl3) := by have := (how4.o3.wrt (by decide)).below hfu4; rwa [← hb9] at this
        have hzu4 : b9 < u4.heap.size := xb9.out.lt
        have hyu4 : wi.heap.size ≤ b9 := by rw [hb9]; exact how4.below.size
        have n9u4 : Pl2 ≤ 9223372036854775807 := how4.st.cs.2.1
        have qu4 : Hid (Pl2 = Pl3) := by have e1 := how4.st.cs.1; have e2 := how4.st.ps.1; have e3 := hl1.out; dsimp only at e1 e2; unfold Hid; omega
        clear y0 y1 y2 y3 y4 y5
        have how := how4.below
        obtain ⟨y0, y1, y2, y3, y4, y5⟩ := (bi.out.below how).cells
        have hl4 : w.heap.size < w4.heap.size := (bi.out.below how).lt
        clear hfu4 how4 how
        replace hb9 := Lib.hid hb9
        replace hu4 := Lib.hid hu4
        go_wp2_with fail
        rw [← hb9.out, ← hu4.out]
        have fu4 := fi.trans (hbu4.mono fi.size)
        refine (hA2.out (by omega) u4 fu4).mono ?_
        rintro e w5 ⟨Q1, Ql1, Qc1, Q2, Ql2, Qc2, Q3, Ql3, Qc3, rfl, how5⟩
        obtain ⟨b11, hb11⟩ : ∃ x, x = w5.heap.size := ⟨_, rfl⟩
        obtain ⟨u5, hu5⟩ : ∃ x, x = w5.alloc (.cells #[.int .i64 k1, .int .i64 nn1, .int .i64 next1, .slice Q1 Ql1 Qc1, .slice Q2 Ql2 Qc2, .slice Q3 Ql3 Qc3] 28) := ⟨_, rfl⟩
        have xb11 : Hid (BoxAt u5 b11 k1 nn1 next1 (.slice Q1 Ql1 Qc1) (.slice Q2 Ql2 Qc2) (.slice Q3 Ql3 Qc3)) := by rw [hu5, hb11]; exact BoxAt.new w5 _ _ _ _ _ _
        have hfu5 : Below w5.heap.size w5 u5 := by rw [hu5]; exact (Below.refl _ _).alloc (Nat.le_refl _) _
        have hbu5 : Below u4.heap.size u4 u5 := how5.below.trans (hfu5.mono how5.below.size)
        have tu5 := Lib.hid (how5.st.to hfu5)
        have w4u5 : Hid (Wrt 1 u5 u4.heap.size b11 Q2 Ql2) := by have := (how5.o2.wrt (by decide)).below hfu5; rwa [← hb11] at this
        have w5u5 : Hid (Wrt 3 u5 u4.heap.size b11 Q3 Ql3) := by have := (how5.o3.wrt (by decide)).below hfu5; rwa [← hb11] at this
        have hzu5 : b11 < u5.heap.size := xb11.out.lt
        have hyu5 : u4.heap.size ≤ b11 := by rw [hb11]; exact how5.below.size
        have n9u5 : Ql2 ≤ 9223372036854775807 := how5.st.cs.2.1
        have qu5 : Hid (Ql2 = Ql3) := by have e1 := how5.st.cs.1; have e2 := how5.st.ps.1; have e3 := hl1.out; dsimp only at e1 e2; unfold Hid; omega
        clear y0 y1 y2 y3 y4 y5
        have how := how5.below
        obtain ⟨y0, y1, y2, y3, y4, y5⟩ := ((ii.out.below hbu4).below how).cells
        have hl5 : b7 < w5.heap.size := ((ii.out.below hbu4).below how).lt
        clear hfu5 how5 how
        replace hb11 := Lib.hid hb11
        replace hu5 := Lib.hid hu5
        go_wp2_with fail
        rw [← hb11.out, ← hu5.out]
        have fu5 := fu4.trans (hbu5.mono fu4.size)
        have hi5 := hbu4.trans (hbu5.mono hbu4.size)
        refine (hD1.out (by omega) ⟨B1, m1, d1, B2, m2, d2, B3, m3, d3⟩ u5 fu5 (sti.out.to hi5)).mono ?_
        rintro e w6 ⟨R1, Rl1, Rc1, R2, Rl2, Rc2, R3, Rl3, Rc3, rfl, how6⟩
        obtain ⟨b13, hb13⟩ : ∃ x, x = w6.heap.size := ⟨_, rfl⟩
        obtain ⟨u6, hu6⟩ : ∃ x, x = w6.alloc (.cells #[.int .i64 k2, .int .i64 nn2, .int .i64 next2, .slice R1 Rl1 Rc1, .slice R2 Rl2 Rc2, .slice R3 Rl3 Rc3] 28) := ⟨_, rfl⟩
        have xb13 : Hid (BoxAt u6 b13 k2 nn2 next2 (.slice R1 Rl1 Rc1) (.slice R2 Rl2 Rc2) (.slice R3 Rl3 Rc3)) := by rw [hu6, hb13]; exact BoxAt.new w6 _ _ _ _ _ _
        have hfu6 : Below w6.heap.size w6 u6 := by rw [hu6]; exact (Below.refl _ _).alloc (Nat.le_refl _) _
        have hbu6 : Below u5.heap.size u5 u6 := how6.below.trans (hfu6.mono how6.below.size)
        have tu6 := Lib.hid (how6.st.to hfu6)
        have w4u6 : Hid (Wrt 1 u6 u5.heap.size b13 R2 Rl2) := by have := (how6.o2.wrt (by decide)).below hfu6; rwa [← hb13] at this
        have w5u6 : Hid (Wrt 3 u6 u5.heap.size b13 R3 Rl3) := by have := (how6.o3.wrt (by decide)).below hfu6; rwa [← hb13] at this
        have hzu6 : b13 < u6.heap.size := xb13.out.lt
        have hyu6 : u5.heap.size ≤ b13 := by rw [hb13]; exact how6.below.size
        have n9u6 : Rl2 ≤ 9223372036854775807 := how6.st.cs.2.1
        have qu6 : Hid (Rl2 = Rl3) := by have e1 := how6.st.cs.1; have e2 := how6.st.ps.1; have e3 := hl2.out; dsimp only at e1 e2; unfold Hid; omega
        clear y0 y1 y2 y3 y4 y5
        have how := how6.below
        obtain ⟨y0, y1, y2, y3, y4, y5⟩ := ((bi.out.below hi5).below how).cells
        have hl6 : w.heap.size < w6.heap.size := ((bi.out.below hi5).below how).lt
        clear hfu6 how6 how
        replace hb13 := Lib.hid hb13
        replace hu6 := Lib.hid hu6
        go_wp2_with fail
        rw [← hb13.out, ← hu6.out]
        have fu6 := fu5.trans (hbu6.mono fu5.size)
        have hi6 := hi5.trans (hbu6.mono hi5.size)
        refine (hD2.out (by omega) u6 fu6).mono ?_
        rintro e w7 ⟨T1, Tl1, Tc1, T2, Tl2, Tc2, T3, Tl3, Tc3, rfl, how7⟩
        obtain ⟨b15, hb15⟩ : ∃ x, x = w7.heap.size := ⟨_, rfl⟩
        obtain ⟨u7, hu7⟩ : ∃ x, x = w7.alloc (.cells #[.int .i64 k2, .int .i64 nn2, .int .i64 next2, .slice T1 Tl1 Tc1, .slice T2 Tl2 Tc2, .slice T3 Tl3 Tc3] 28) := ⟨_, rfl⟩
        have xb15 : Hid (BoxAt u7 b15 k2 nn2 next2 (.slice T1 Tl1 Tc1) (.slice T2 Tl2 Tc2) (.slice T3 Tl3 Tc3)) := by rw [hu7, hb15]; exact BoxAt.new w7 _ _ _ _ _ _
        have hfu7 : Below w7.heap.size w7 u7 := by rw [hu7]; exact (Below.refl _ _).alloc (Nat.le_refl _) _
        have hbu7 : Below u6.heap.size u6 u7 := how7.below.trans (hfu7.mono how7.below.size)
        have tu7 := Lib.hid (how7.st.to hfu7)
        have w4u7 : Hid (Wrt 1 u7 u6.heap.size b15 T2 Tl2) := by have := (how7.o2.wrt (by decide)).below hfu7; rwa [← hb15] at this
        have w5u7 : Hid (Wrt 3 u7 u6.heap.size b15 T3 Tl3) := by have := (how7.o3.wrt (by decide)).below hfu7; rwa [← hb15] at this
        have hzu7 : b15 < u7.heap.size := xb15.out.lt
        have hyu7 : u6.heap.size ≤ b15 := by rw [hb15]; exact how7.below.size
        have n9u7 : Tl2 ≤ 9223372036854775807 := how7.st.cs.2.1
        have qu7 : Hid (Tl2 = Tl3) := by have e1 := how7.st.cs.1; have e2 := how7.st.ps.1; have e3 := hl2.out; dsimp only at e1 e2; unfold Hid; omega
        clear y0 y1 y2 y3 y4 y5
        have how := how7.below
        have hz9a := (((xb9.out.below hbu5).below hbu6).below how)
        have hz9b := ((xb11.out.below hbu6).below how)
        obtain ⟨y0, y1, y2, y3, y4, y5⟩ := hz9a.cells
        obtain ⟨v0, v1, v2, v3, v4, v5⟩ := hz9b.cells
        have hl7 := hz9a.lt
        have hl8 := hz9b.lt
        clear hz9a hz9b
        clear hfu7 how7 how
        replace hb15 := Lib.hid hb15
        replace hu7 := Lib.hid hu7
        go_wp2_with fail
        rw [← hb15.out, ← hu7.out]
        have fu7 := fu6.trans (hbu7.mono fu6.size)
        have hi7 := hi6.trans (hbu7.mono hi6.size)
        have h67 := hbu7
        have h57 := hbu6.trans (hbu7.mono hbu6.size)
        have h47 := hbu5.trans (h57.mono hbu5.size)
        have x9 := Lib.hid (xb9.out.below h47)
        have x11 := Lib.hid (xb11.out.below h57)
        have x13 := Lib.hid (xb13.out.below h67)
        have ta := Lib.hid (tu4.out.to h47)
        have tb := Lib.hid (tu5.out.to h57)
        have tc := Lib.hid (tu6.out.to h67)
        refine (hS1.out ⟨P1, Pl1, Pc1, P2, Pl2, Pc2, P3, Pl3, Pc3⟩ ⟨Q1, Ql1, Qc1, Q2, Ql2, Qc2, Q3, Ql3, Qc3⟩ u7 ta.out tb.out).mono ?_
        rintro e x1 ⟨rfl, hx1⟩
        clear y0 y1 y2 y3 y4 y5 v0 v1 v2 v3 v4 v5
        obtain ⟨y0, y1, y2, y3, y4, y5⟩ := (x13.out.below hx1).cells
        obtain ⟨v0, v1, v2, v3, v4, v5⟩ := (xb15.out.below hx1).cells
        go_wp2_with fail
        refine (hS2.out ⟨R1, Rl1, Rc1, R2, Rl2, Rc2, R3, Rl3, Rc3⟩ ⟨T1, Tl1, Tc1, T2, Tl2, Tc2, T3, Tl3, Tc3⟩ x1 (tc.out.to hx1) (tu7.out.to hx1)).mono ?_
        rintro e x2 ⟨rfl, hx2⟩
        have hx12 := hx1.trans (hx2.mono hx1.size)
        clear y0 y1 y2 y3 y4 y5 v0 v1 v2 v3 v4 v5
        have hix := hi7.trans (hx12.mono hi7.size)
        obtain ⟨y0, y1, y2, y3, y4, y5⟩ := (ii.out.below hix).cells
        obtain ⟨v0, v1, v2, v3, v4, v5⟩ := (bi.out.below hix).cells
        go_wp2_with fail
        refine (hS3.out ⟨B1, m1, d1, B2, m2, d2, B3, m3, d3⟩ ⟨A1, n1, c1, A2, n2, c2, A3, n3, c3⟩ x2 (sti.out.to hix) (hst.out.to (fi.trans (hix.mono fi.size)))).mono ?_
        rintro e x3 ⟨rfl, hx3⟩
        have hx13 := hx12.trans (hx3.mono hx12.size)
        have hi3 := hix.trans (hx3.mono hix.size)
        clear y0 y1 y2 y3 y4 y5 v0 v1 v2 v3 v4 v5
        have l4 := Lib.hid ((w4u4.out.below h47).below hx13)
        have l5 := Lib.hid ((w5u4.out.below h47).below hx13)
        have lx := Lib.hid (x9.out.below hx13)
        have k4 := Lib.hid ((w4u6.out.below h67).below hx13)
        have k5 := Lib.hid ((w5u6.out.below h67).below hx13)
        have kx := Lib.hid (x13.out.below hx13)
        have hz9 := lx.out.lt
        have ho1 : b9 ≤ u5.heap.size := by have := hbu5.size; omega
        have ho2 : b9 ≤ b13 := by omega
        have ho3 : wi.heap.size ≤ u5.heap.size := hi5.size
        have hi3s := Lib.hid hi3
        replace hi3 := Lib.hid hi3
        clear hx1 hx2 hx3 hx12 hx13 hix h47 h57 h67 hi5 hi6 hi7 fu4 fu5 fu6 fu7 hbu4 hbu5 hbu6 hbu7
        go_wp2_with fail
        go_loopw [17] (fun i wv => ∃ j : Nat, j ≤ Pl2 ∧ i = .int .i64 j ∧ Hid (Out wi.heap.size b9 x3 wv) ∧ Hid (Wrt 1 wv wi.heap.size b9 P2 Pl2) ∧ Hid (Wrt 3 wv wi.heap.size b9 P3 Pl3)) (fun i _ => Pl2 - (intOf i).toNat)
        case atStart => exact ⟨0, Nat.zero_le _, rfl, Out.refl _ _ _, l4, l5⟩
        case round =>
          obtain ⟨j, hj, rfl, hout, hw4, hw5⟩ := hrel
          obtain ⟨wv, hwv⟩ : ∃ x : World, x = wr := ⟨_, rfl⟩
          rw [← hwv] at hout hw4 hw5 ⊢
          clear hwv
          have xb := lx.out.out hout.out (.inr (Nat.le_refl _))
          obtain ⟨y0, y1, y2, y3, y4, y5⟩ := xb.cells
          have q9 := qu4.out
          by_cases hlt : j < Pl2
          · have hji : (j : Int) < (Pl2 : Int) := by omega
            obtain ⟨b4, o4, e4, he4, h41, h42, z4, zf4⟩ := hw4.out.at_ (j := 0) hlt (by decide)
            obtain ⟨b5, o5, e5, he5, h51, h52, _, _⟩ := hw5.out.at_ (i := j) (j := 1) (by omega) (by decide)
            subst he4
            subst he5
            simp only [Nat.mul_one, Nat.add_zero] at z4 zf4
            have hlv : b4 < wv.heap.size := World.block_lt_of_cell? wv _ z4
            have xout := hout.out.setCell (p := ⟨b4, o4 + j, none⟩) h41 h42 (.string ⟨#[63]⟩)
            have xw4 := hw4.out.setCell ⟨b4, o4 + j, none⟩ (.string ⟨#[63]⟩)
            have xw5 := hw5.out.setCell ⟨b4, o4 + j, none⟩ (.string ⟨#[63]⟩)
            replace xout := Lib.hid xout
            replace xw4 := Lib.hid xw4
            replace xw5 := Lib.hid xw5
            replace q9 := Lib.hid q9
            replace xb := Lib.hid xb
            go_upto_region 17 with fail
            generalize hxv : wv.setCell ⟨b4, o4 + j, none⟩ (.string ⟨#[63]⟩) = xv at xout xw4 xw5 ⊢
            clear hxv y0 y1 y2 y3 y4 y5 z4 zf4
            have xb' := lx.out.out xout.out (.inr (Nat.le_refl _))
            obtain ⟨y0, y1, y2, y3, y4, y5⟩ := xb'.cells
            replace xb' := Lib.hid xb'
            have hj5 : (j : Int) < (Pl3 : Int) := by have := q9.out; omega
            obtain ⟨b5', o5', e5, he5, h51, h52, z5, zf5⟩ := xw5.out.at_ (i := j) (j := 1) (by have := q9.out; omega) (by decide)
            simp only [Option.some.injEq, Addr.mk.injEq] at he5
            obtain ⟨rfl, rfl, _⟩ := he5
            have xout2 := Lib.hid (xout.out.setCell (p := ⟨b5, o5 + (j * 3 + 1), none⟩) h51 h52 (.int .i64 (-1)))
            have xw42 := Lib.hid (xw4.out.setCell ⟨b5, o5 + (j * 3 + 1), none⟩ (.int .i64 (-1)))
            have xw52 := Lib.hid (xw5.out.setCell ⟨b5, o5 + (j * 3 + 1), none⟩ (.int .i64 (-1)))
            rw [← Nat.add_assoc] at z5 zf5 xout2 xw42 xw52
            go_wp2_with fail
            go_roundw
            case rel => exact ⟨j + 1, by omega, by go_num, xout2, xw42, xw52⟩
            case measure => simp [intOf]; omega
          · obtain rfl : j = Pl2 := by omega
            have hji : decide ((j : Int) < (j : Int)) = false := by simp
            have nb4 := Lib.hid (k4.out.out hout.out ho1)
            have nb5 := Lib.hid (k5.out.out hout.out ho1)
            have nbx := Lib.hid (kx.out.out hout.out (.inr ho2))
            clear k4 k5 kx
            have k4 := nb4
            have k5 := nb5
            have kx := nbx
            clear nb4 nb5 nbx
            obtain ⟨wy, rfl⟩ : ∃ x : World, x = wv := ⟨_, rfl⟩
            have hiy := Lib.hid (hi3.out.trans hout.out.1)
            replace xb := Lib.hid xb
            replace q9 := Lib.hid q9
            replace hj := True.intro
            clear hout hw4 hw5 xb hlt
            go_wp2_with fail
            clear y0 y1 y2 y3 y4 y5
            go_loopw [18] (fun i wv => ∃ j : Nat, j ≤ Rl2 ∧ i = .int .i64 j ∧ Hid (Out u5.heap.size b13 wy wv) ∧ Hid (Wrt 1 wv u5.heap.size b13 R2 Rl2) ∧ Hid (Wrt 3 wv u5.heap.size b13 R3 Rl3)) (fun i _ => Rl2 - (intOf i).toNat)
            case atStart => exact ⟨0, Nat.zero_le _, rfl, Out.refl _ _ _, k4, k5⟩
            case round =>
              obtain ⟨j, hj, rfl, hout, hw4, hw5⟩ := hrel
              obtain ⟨wv, hwv⟩ : ∃ x : World, x = wr := ⟨_, rfl⟩
              rw [← hwv] at hout hw4 hw5 ⊢
              clear hwv
              have xb := kx.out.out hout.out (.inr (Nat.le_refl _))
              obtain ⟨y0, y1, y2, y3, y4, y5⟩ := xb.cells
              have q8 := qu6.out
              by_cases hlt : j < Rl2
              · have hji : (j : Int) < (Rl2 : Int) := by omega
                obtain ⟨b4, o4, e4, he4, h41, h42, z4, zf4⟩ := hw4.out.at_ (j := 0) hlt (by decide)
                obtain ⟨b5, o5, e5, he5, h51, h52, _, _⟩ := hw5.out.at_ (i := j) (j := 1) (by omega) (by decide)
                subst he4
                subst he5
                simp only [Nat.mul_one, Nat.add_zero] at z4 zf4
                have hlv : b4 < wv.heap.size := World.block_lt_of_cell? wv _ z4
                have xout := hout.out.setCell (p := ⟨b4, o4 + j, none⟩) h41 h42 (.string ⟨#[63]⟩)
                have xw4 := hw4.out.setCell ⟨b4, o4 + j, none⟩ (.string ⟨#[63]⟩)
                have xw5 := hw5.out.setCell ⟨b4, o4 + j, none⟩ (.string ⟨#[63]⟩)
                replace xout := Lib.hid xout
                replace xw4 := Lib.hid xw4
                replace xw5 := Lib.hid xw5
                replace q8 := Lib.hid q8
                replace xb := Lib.hid xb
                go_upto_region 22 with fail
                generalize hxv : wv.setCell ⟨b4, o4 + j, none⟩ (.string ⟨#[63]⟩) = xv at xout xw4 xw5 ⊢
                clear hxv y0 y1 y2 y3 y4 y5 z4 zf4
                have xb' := kx.out.out xout.out (.inr (Nat.le_refl _))
                obtain ⟨y0, y1, y2, y3, y4, y5⟩ := xb'.cells
                replace xb' := Lib.hid xb'
                have hj5 : (j : Int) < (Rl3 : Int) := by have := q8.out; omega
                obtain ⟨b5', o5', e5, he5, h51, h52, z5, zf5⟩ := xw5.out.at_ (i := j) (j := 1) (by have := q8.out; omega) (by decide)
                simp only [Option.some.injEq, Addr.mk.injEq] at he5
                obtain ⟨rfl, rfl, _⟩ := he5
                have xout2 := Lib.hid (xout.out.setCell (p := ⟨b5, o5 + (j * 3 + 1), none⟩) h51 h52 (.int .i64 (-1)))
                have xw42 := Lib.hid (xw4.out.setCell ⟨b5, o5 + (j * 3 + 1), none⟩ (.int .i64 (-1)))
                have xw52 := Lib.hid (xw5.out.setCell ⟨b5, o5 + (j * 3 + 1), none⟩ (.int .i64 (-1)))
                rw [← Nat.add_assoc] at z5 zf5 xout2 xw42 xw52
                go_wp2_with fail
                go_roundw
                case rel => exact ⟨j + 1, by omega, by go_num, xout2, xw42, xw52⟩
                case measure => simp [intOf]; omega
              · obtain rfl : j = Rl2 := by omega
                have hji : decide ((j : Int) < (j : Int)) = false := by simp
                have hfin := Lib.hid (hbr.trans ((hiy.out.trans (hout.out.1.mono ho3)).mono hzr))
                replace xb := Lib.hid xb
                replace q8 := Lib.hid q8
                go_wp2_with fail
                go_roundw
                case rel => exact ⟨r + 1, by omega, by go_num, hfin.out⟩
                case measure => simp [intOf]; omega
      · obtain rfl : r = 2 := by omega
        go_wp2_with fail
        go_ret
        exact ⟨rfl, fi⟩
  · rintro e w1 ⟨rfl, hb1⟩
    have hz1 := hb1.size
    simp at hz1
    go_wp2_with fail
    go_ret
    exact ⟨rfl, f0.trans (hb1.mono (by simp))⟩
end Go.Proofs.Ythbmbbbojpdlaaa
