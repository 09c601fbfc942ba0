/-
  The walk of IndexStays.
-/
import Derived.Test.YthbmbbbojpdlaaaWholeW
import Derived.Test.YthbmbbbojpdlaaaStaysL
import Derived.Test.YthbmbbbojpdlaaaSameB
import Derived.Deep.DeepCutAuto
namespace Go.Proofs.Ythbmbbbojpdlaaa
open Go.RowKit
attribute [local go_sem ↓] Go.wp_at_zero Go.wp_at_succ

set_option maxHeartbeats 16000000 in
set_option maxRecDepth 100000 in
theorem indexStays_walk (v : Rws) (s : St) (A4 : Option Addr) (n4 c4 : Nat) (D : List ByteArray) (A6 : Option Addr) (n6 c6 : Nat) (P : List Place) (w : World)
    (h : StAt w w.heap.size v s) (hD : StrsAt w w.heap.size A4 n4 D) (hP : PlacesAt w w.heap.size A6 n6 P) (okP : ∀ p ∈ P, PlaceOk p) (hr : ReachI v) :
    Calls Try.prog 13 #[v.val s, .slice A4 n4 c4, .slice A6 n6 c6] w fun e w' => e = .returned (.bool true) ∧ Below w.heap.size w w' := by
  have hL := Lib.hid (law17_large v s · hr)
  have hst := Lib.hid h
  have hWh := fun W hs hm => law17_whole v s W hs hm
  have hS9 := fun r r' W h1 h2 => ref17_Same r r' s s W h1 h2
  simp only [sameSt_self] at hS9
  have hA1 := fun W hs h1 h2 (hn : n4 ≤ 1000) => outs (index_Add v s A4 n4 c4 D A6 n6 c6 P W hs h1 h2 okP hn)
  have hD2 := fun W hs h1 (hn : n4 ≤ 1000) => outs (index_Drop v s A4 n4 c4 D W hs h1 hn)
  obtain ⟨⟨⟨ka, na, xa, sna, csa, psa⟩, z1⟩, hx1⟩ : ∃ x, x = addIdx s D P := ⟨_, rfl⟩
  obtain ⟨⟨⟨kb, nb, xb, snb, csb, psb⟩, z2⟩, hx2⟩ : ∃ x, x = dropIdx s D := ⟨_, rfl⟩
  rw [← hx1] at hA1
  rw [← hx2] at hD2
  have hcs := addIdx_cases s D P
  have hds := fun hm => dropIdx_cases s D hm
  rw [← hx1] at hcs
  rw [← hx2] at hds
  obtain ⟨k, nn, next, sn, cs, ps⟩ := s
  obtain ⟨V1, v1, q1, V2, v2, q2, V3, v3, q3⟩ := v
  have hM := fun W (hs : StAt W W.heap.size ⟨V1, v1, q1, V2, v2, q2, V3, v3, q3⟩ ⟨k, nn, next, sn, cs, ps⟩) => index_May k nn next V1 v1 q1 V2 v2 q2 V3 v3 q3 cs ps W hs.cs hs.ps hs.ok
  have hMa := fun A1 n1 c1 A2 n2 c2 A3 n3 c3 W (hs : StAt W W.heap.size ⟨A1, n1, c1, A2, n2, c2, A3, n3, c3⟩ ⟨ka, na, xa, sna, csa, psa⟩) => index_May ka na xa A1 n1 c1 A2 n2 c2 A3 n3 c3 csa psa W hs.cs hs.ps hs.ok
  have hMb := fun A1 n1 c1 A2 n2 c2 A3 n3 c3 W (hs : StAt W W.heap.size ⟨A1, n1, c1, A2, n2, c2, A3, n3, c3⟩ ⟨kb, nb, xb, snb, csb, psb⟩) => index_May kb nb xb A1 n1 c1 A2 n2 c2 A3 n3 c3 csb psb W hs.cs hs.ps hs.ok
  have hFa := fun r c W hs => index_Find r ⟨ka, na, xa, sna, csa, psa⟩ c W hs
  have hFb := fun r c W hs => index_Find r ⟨kb, nb, xb, snb, csb, psb⟩ c W hs
  have hDa := fun r W hs h1 (hn : n4 ≤ 1000) => outs (index_Drop r ⟨ka, na, xa, sna, csa, psa⟩ A4 n4 c4 D W hs h1 hn)
  unfold Rws.val stv at hL hWh hS9 hFa hFb
  unfold stv at hM hMa hMb
  unfold Rws.val stv
  dsimp only at hL hWh hS9 hA1 hD2 hFa hFb hcs hds ⊢
  have bs := Lib.hid (BoxAt.new w k nn next (.slice V1 v1 q1) (.slice V2 v2 q2) (.slice V3 v3 q3))
  have fw : Below w.heap.size w (w.alloc (.cells #[.int .i64 k, .int .i64 nn, .int .i64 next, .slice V1 v1 q1, .slice V2 v2 q2, .slice V3 v3 q3] 28)) := (Below.refl _ _).alloc (Nat.le_refl _) _
  have sst := Lib.hid (hst.out.to fw)
  have rD := Lib.hid (hD.to fw)
  have rP := Lib.hid (hP.to fw)
  have lD := Lib.hid hD.1
  have lP := Lib.hid hP.1
  replace hA1 := Lib.hid hA1
  replace hD2 := Lib.hid hD2
  replace hx1 := Lib.hid hx1
  replace hx2 := Lib.hid hx2
  replace hcs := Lib.hid hcs
  replace hds := Lib.hid hds
  replace hM := Lib.hid hM
  replace hMa := Lib.hid hMa
  replace hMb := Lib.hid hMb
  replace hFa := Lib.hid hFa
  replace hFb := Lib.hid hFb
  replace hDa := Lib.hid hDa
  replace hWh := Lib.hid hWh
  replace hS9 := Lib.hid hS9
  clear h hst hD hP hr
  go_enter Try.func13, Try.ntmps13
  go_upto_region 1 with fail
  generalize w.alloc (.cells #[.int .i64 k, .int .i64 nn, .int .i64 next, .slice V1 v1 q1, .slice V2 v2 q2, .slice V3 v3 q3] 28) = w0 at bs fw sst rD rP ⊢
  go_wp2_with fail
  refine (law17_works w0).mono ?_
  rintro e w1 ⟨rfl, hb1⟩
  replace bs := Lib.hid (bs.out.below hb1)
  replace sst := Lib.hid (sst.out.to hb1)
  replace rD := Lib.hid (rD.out.to hb1)
  replace rP := Lib.hid (rP.out.to hb1)
  replace fw := fw.trans (hb1.mono fw.size)
  obtain ⟨x0, x1, x2, x3, x4, x5⟩ := bs.out.cells
  go_wp2_with fail
  refine (hL.out w1).mono ?_
  cases largeI ⟨V1, v1, q1, V2, v2, q2, V3, v3, q3⟩
  · rintro e w2 ⟨rfl, hb2⟩
    replace bs := Lib.hid (bs.out.below hb2)
    replace sst := Lib.hid (sst.out.to hb2)
    replace rD := Lib.hid (rD.out.to hb2)
    replace rP := Lib.hid (rP.out.to hb2)
    replace fw := fw.trans (hb2.mono fw.size)
    clear x0 x1 x2 x3 x4 x5
    by_cases h4 : 400 < n4
    · have g : decide ((400 : Int) < (n4 : Int)) = true := by simp; omega
      go_wp2_with fail
      refine (law17_works w2).mono ?_
      rintro e w3 ⟨rfl, hb3⟩
      go_wp2_with fail
      go_ret
      exact ⟨rfl, fw.trans (hb3.mono fw.size)⟩
    have g4 : decide ((400 : Int) < (n4 : Int)) = false := by simp; omega
    obtain ⟨x0, x1, x2, x3, x4, x5⟩ := bs.out.cells
    go_wp2_with fail
    refine (hM.out w2 sst.out).mono ?_
    cases hm : mayIdx cs ps
    · rintro e w3 ⟨rfl, hb3⟩
      replace fw := fw.trans (hb3.mono fw.size)
      replace hm := Lib.hid hm
      go_wp2_with fail
      refine (law17_works w3).mono ?_
      rintro e w4 ⟨rfl, hb4⟩
      go_wp2_with fail
      go_ret
      exact ⟨rfl, fw.trans (hb4.mono fw.size)⟩
    rintro e w3 ⟨rfl, hb3⟩
    replace bs := Lib.hid (bs.out.below hb3)
    replace sst := Lib.hid (sst.out.to hb3)
    replace rD := Lib.hid (rD.out.to hb3)
    replace rP := Lib.hid (rP.out.to hb3)
    replace fw := fw.trans (hb3.mono fw.size)
    clear x0 x1 x2 x3 x4 x5
    have hcp : Hid (cs.length = ps.length ∧ cs.length ≤ 400) := mayIdx_len hm
    replace hds := Lib.hid (hds.out hm)
    replace hm := Lib.hid hm
    obtain ⟨x0, x1, x2, x3, x4, x5⟩ := bs.out.cells
    go_wp2_with fail
    refine (hA1.out w3 sst.out rD.out rP.out (by omega)).mono ?_
    rintro e w4 ⟨A1, Al1, Ac1, A2, Al2, Ac2, A3, Al3, Ac3, rfl, ho4⟩
    have hd4 := ho4.below
    replace bs := Lib.hid (bs.out.below hd4)
    replace sst := Lib.hid (sst.out.to hd4)
    replace rD := Lib.hid (rD.out.to hd4)
    replace rP := Lib.hid (rP.out.to hd4)
    replace fw := fw.trans (hd4.mono fw.size)
    have tsta := ho4.st
    clear ho4 hd4 x0 x1 x2 x3 x4 x5
    obtain ⟨ba, hba⟩ : ∃ x, x = w4.heap.size := ⟨_, rfl⟩
    obtain ⟨g4w, hg4⟩ : ∃ x, x = w4.alloc (.cells #[.int .i64 ka, .int .i64 na, .int .i64 xa, .slice A1 Al1 Ac1, .slice A2 Al2 Ac2, .slice A3 Al3 Ac3] 28) := ⟨_, rfl⟩
    have hf4 : Below w4.heap.size w4 g4w := by rw [hg4]; exact (Below.refl _ _).alloc (Nat.le_refl _) _
    replace bs := Lib.hid (bs.out.below hf4)
    replace sst := Lib.hid (sst.out.to hf4)
    replace rD := Lib.hid (rD.out.to hf4)
    replace rP := Lib.hid (rP.out.to hf4)
    replace fw := fw.trans (hf4.mono fw.size)
    have xa9 : Hid (BoxAt g4w ba ka na xa (.slice A1 Al1 Ac1) (.slice A2 Al2 Ac2) (.slice A3 Al3 Ac3)) := by rw [hg4, hba]; exact BoxAt.new w4 _ _ _ _ _ _
    have sta := Lib.hid (tsta.to hf4)
    clear tsta hf4
    replace hba := Lib.hid hba
    replace hg4 := Lib.hid hg4
    go_upto_if 46 with fail
    rw [← hba.out, ← hg4.out]
    go_cut [11] (fun v11 wc => (∃ a, v11 = a) ∧ Below g4w.heap.size g4w wc)
    case first =>
      as_aux_lemma =>
      rcases hcs.out with ⟨z, he, hz⟩ | ⟨c1, p1, ok, he⟩
      · simp only [Prod.mk.injEq] at he
        obtain ⟨_, rfl⟩ := he
        have g : (z1 == 0) = false := by simpa using hz
        replace hz := Lib.hid hz
        go_wp2_with fail
        go_meet
        exact ⟨⟨_, rfl⟩, (by repeat (first | exact Below.refl _ _ | assumption | refine Below.drew ?_ | refine below_drewN ?_ _ | refine Below.alloc ?_ (by first | omega | (simp; try omega)) _ | refine Below.setCell ?_ (by first | omega | (simp; try omega)) _ | (refine Below.trans ?_ (Below.mono (by assumption) (by first | omega | (simp; try omega))))))⟩
      · simp only [Prod.mk.injEq, St.mk.injEq] at he
        obtain ⟨⟨rfl, rfl, rfl, rfl, rfl, rfl⟩, rfl⟩ := he
        rw [ok.undone] at hDa
        dsimp only at hDa
        have hMa9 := hMa.out
        rw [ok.res] at hMa9
        replace hMa9 := Lib.hid hMa9
        have okk := Lib.hid ok
        have hcpa : Hid (Al2 = v2 + n4) := by
          have e1 := sta.out.cs.1
          have e2 := sst.out.cs.1
          have e3 := rD.out.1
          have e4 := ok.added.len
          dsimp only at e1 e2 e4
          exact Lib.hid (by omega)
        have l2 : v2 ≤ 400 := by
          have e2 := sst.out.cs.1
          have e3 := hcp.out.2
          dsimp only at e2
          omega
        have g5 : ((Al2 : Int) != (v2 : Int) + (n4 : Int)) = false := by rw [hcpa.out]; simp
        obtain ⟨y0, y1, y2, y3, y4, y5⟩ := xa9.out.cells
        go_wp2_with fail
        refine (hDa.out ⟨A1, Al1, Ac1, A2, Al2, Ac2, A3, Al3, Ac3⟩ g4w sta.out rD.out (by omega)).mono ?_
        rintro e w5 ⟨B1, Bl1, Bc1, B2, Bl2, Bc2, B3, Bl3, Bc3, rfl, ho5⟩
        have hd5 := ho5.below
        replace bs := Lib.hid (bs.out.below hd5)
        replace sst := Lib.hid (sst.out.to hd5)
        replace rD := Lib.hid (rD.out.to hd5)
        replace rP := Lib.hid (rP.out.to hd5)
        replace xa9 := Lib.hid (xa9.out.below hd5)
        replace sta := Lib.hid (sta.out.to hd5)
        have stb := Lib.hid ho5.st
        have hg5 := hd5
        clear ho5 hd5 y0 y1 y2 y3 y4 y5
        obtain ⟨bk, hbk⟩ : ∃ x, x = w5.heap.size := ⟨_, rfl⟩
        obtain ⟨g5w, hg5w⟩ : ∃ x, x = w5.alloc (.cells #[.int .i64 ka, .int .i64 na, .int .i64 xa, .slice B1 Bl1 Bc1, .slice B2 Bl2 Bc2, .slice B3 Bl3 Bc3] 28) := ⟨_, rfl⟩
        have hf5 : Below w5.heap.size w5 g5w := by rw [hg5w]; exact (Below.refl _ _).alloc (Nat.le_refl _) _
        replace bs := Lib.hid (bs.out.below hf5)
        replace sst := Lib.hid (sst.out.to hf5)
        replace rD := Lib.hid (rD.out.to hf5)
        replace rP := Lib.hid (rP.out.to hf5)
        replace xa9 := Lib.hid (xa9.out.below hf5)
        replace sta := Lib.hid (sta.out.to hf5)
        replace stb := Lib.hid (stb.out.to hf5)
        replace hg5 := hg5.trans (hf5.mono hg5.size)
        have xb9 : Hid (BoxAt g5w bk ka na xa (.slice B1 Bl1 Bc1) (.slice B2 Bl2 Bc2) (.slice B3 Bl3 Bc3)) := by rw [hg5w, hbk]; exact BoxAt.new w5 _ _ _ _ _ _
        obtain ⟨y0, y1, y2, y3, y4, y5⟩ := xa9.out.cells
        rw [hg5w] at y0 y1 y2 y3 y4 y5
        replace hbk := Lib.hid hbk
        replace hg5w := Lib.hid hg5w
        clear hf5
        go_wp2_with fail
        rw [← hbk.out, ← hg5w.out]
        refine (hMa9.out A1 Al1 Ac1 A2 Al2 Ac2 A3 Al3 Ac3 g5w sta.out).mono ?_
        rintro e w6 ⟨rfl, hb6⟩
        replace bs := Lib.hid (bs.out.below hb6)
        replace sst := Lib.hid (sst.out.to hb6)
        replace rD := Lib.hid (rD.out.to hb6)
        replace rP := Lib.hid (rP.out.to hb6)
        replace xa9 := Lib.hid (xa9.out.below hb6)
        replace xb9 := Lib.hid (xb9.out.below hb6)
        replace sta := Lib.hid (sta.out.to hb6)
        replace stb := Lib.hid (stb.out.to hb6)
        replace hg5 := hg5.trans (hb6.mono hg5.size)
        clear y0 y1 y2 y3 y4 y5
        obtain ⟨x0, x1, x2, x3, x4, x5⟩ := bs.out.cells
        obtain ⟨y0, y1, y2, y3, y4, y5⟩ := xb9.out.cells
        go_wp2_with fail
        refine (hS9.out ⟨B1, Bl1, Bc1, B2, Bl2, Bc2, B3, Bl3, Bc3⟩ ⟨V1, v1, q1, V2, v2, q2, V3, v3, q3⟩ w6 stb.out sst.out).mono ?_
        rintro e w7 ⟨rfl, hb7⟩
        replace bs := Lib.hid (bs.out.below hb7)
        replace sst := Lib.hid (sst.out.to hb7)
        replace rD := Lib.hid (rD.out.to hb7)
        replace rP := Lib.hid (rP.out.to hb7)
        replace xa9 := Lib.hid (xa9.out.below hb7)
        replace sta := Lib.hid (sta.out.to hb7)
        replace hg5 := hg5.trans (hb7.mono hg5.size)
        clear x0 x1 x2 x3 x4 x5 y0 y1 y2 y3 y4 y5 xb9 stb
        obtain ⟨x0, x1, x2, x3, x4, x5⟩ := bs.out.cells
        obtain ⟨y0, y1, y2, y3, y4, y5⟩ := xa9.out.cells
        go_wp2_with fail
        go_loopw [11] (fun i wr => ∃ j : Nat, j ≤ n4 ∧ i = .int .i64 j ∧ Below w7.heap.size w7 wr) (fun i _ => n4 - (intOf i).toNat)
        case atStart => exact ⟨0, Nat.zero_le _, rfl, Below.refl _ _⟩
        case round =>
          obtain ⟨j, hj, rfl, hbj⟩ := hrel
          obtain ⟨wj, hwj0⟩ : ∃ x : World, x = wr := ⟨_, rfl⟩
          rw [← hwj0] at hbj ⊢
          clear hwj0 x0 x1 x2 x3 x4 x5 y0 y1 y2 y3 y4 y5
          replace bs := Lib.hid (bs.out.below hbj)
          replace sst := Lib.hid (sst.out.to hbj)
          replace rD := Lib.hid (rD.out.to hbj)
          replace rP := Lib.hid (rP.out.to hbj)
          replace xa9 := Lib.hid (xa9.out.below hbj)
          replace sta := Lib.hid (sta.out.to hbj)
          replace hg5 := hg5.trans (hbj.mono hg5.size)
          by_cases hjl : j < n4
          · have hji : (j : Int) < (n4 : Int) := by omega
            have hnp : n6 = n4 := by have := okk.out.lens; have := lD.out; have := lP.out; omega
            obtain ⟨xc, hxc⟩ := getElem_some (l := D) (i := j) (by have := lD.out; omega)
            obtain ⟨xp, hxp⟩ := getElem_some (l := P) (i := j) (by have := lP.out; omega)
            have hfnd := okk.out.finds hxc hxp
            dsimp only at hfnd
            have hF1 := hFa.out ⟨A1, Al1, Ac1, A2, Al2, Ac2, A3, Al3, Ac3⟩ xc
            rw [hfnd] at hF1
            simp only [Place.agg] at hF1
            replace hF1 := Lib.hid hF1
            obtain ⟨b8, o8, hA8, hb8⟩ := rD.out.addrOf hjl
            obtain ⟨b9, o9, hA9, hb9⟩ := rP.out.addrOf (by omega : j < n6)
            subst hA8
            subst hA9
            have yD := rD.out.strAt hxc
            obtain ⟨y0, y1, y2, y3, y4, y5⟩ := xa9.out.cells
            have ly := xa9.out.lt
            replace hxc := Lib.hid hxc
            replace hxp := Lib.hid hxp
            have hjn6 : j < n6 := by omega
            have hjn6i : (j : Int) < (n6 : Int) := by omega
            replace hnp := Lib.hid hnp
            go_upto_region 11 with fail
            --R11
            refine region_krip (fun W : World => Below wj.heap.size wj W) (by kernel_rfl) ((Below.refl _ _).drew) ?_
            (refine kF.takeL (i := 0) (v := ?_) rfl (by kernel_rfl) (fun _ _ _ h => h) (Or.inl ⟨by rfl, ?_⟩) ?_
             rotate_left
             · (intro wS hSw; (try dsimp only at hSw); have hcS := fun b o (h : b < wj.heap.size) => hSw.cell (p := ⟨b, o, none⟩) h; go_simp; (try with_reducible rfl))
             try simp only [Act.put, List.setIfInBounds_toArray, List.set_cons_zero, List.set_cons_succ])
            (refine kF.takeL (i := 1) (v := ?_) rfl (by kernel_rfl) (fun _ _ _ h => h) (Or.inl ⟨by rfl, ?_⟩) ?_
             rotate_left
             · (intro wS hSw; (try dsimp only at hSw); have hcS := fun b o (h : b < wj.heap.size) => hSw.cell (p := ⟨b, o, none⟩) h; go_simp; (try with_reducible rfl))
             try simp only [Act.put, List.setIfInBounds_toArray, List.set_cons_zero, List.set_cons_succ])
            (refine kF.takeL (i := 2) (v := ?_) rfl (by kernel_rfl) (fun _ _ _ h => h) (Or.inl ⟨by rfl, ?_⟩) ?_
             rotate_left
             · (intro wS hSw; (try dsimp only at hSw); have hcS := fun b o (h : b < wj.heap.size) => hSw.cell (p := ⟨b, o, none⟩) h; go_simp; (try with_reducible rfl))
             try simp only [Act.put, List.setIfInBounds_toArray, List.set_cons_zero, List.set_cons_succ])
            (refine kF.takeL (i := 3) (v := ?_) rfl (by kernel_rfl) (fun _ _ _ h => h) (Or.inl ⟨by rfl, ?_⟩) ?_
             rotate_left
             · (intro wS hSw; (try dsimp only at hSw); have hcS := fun b o (h : b < wj.heap.size) => hSw.cell (p := ⟨b, o, none⟩) h; go_simp; (try with_reducible rfl))
             try simp only [Act.put, List.setIfInBounds_toArray, List.set_cons_zero, List.set_cons_succ])
            (refine kF.takeL (i := 4) (v := ?_) rfl (by kernel_rfl) (fun _ _ _ h => h) (Or.inl ⟨by rfl, ?_⟩) ?_
             rotate_left
             · (intro wS hSw; (try dsimp only at hSw); have hcS := fun b o (h : b < wj.heap.size) => hSw.cell (p := ⟨b, o, none⟩) h; go_simp; (try with_reducible rfl))
             try simp only [Act.put, List.setIfInBounds_toArray, List.set_cons_zero, List.set_cons_succ])
            (refine kF.newL (i := 9) (fun b => .pointer (some ⟨b, 0, none⟩)) (.cells #[.string ⟨#[]⟩, .int .i64 0, .int .i64 0] 34) rfl (by kernel_rfl) (by rfl) ?_ ?_
             · (intro wS; go_simp; (try with_reducible rfl)))
            (refine kF.onlyL (j := 5) rfl (by kernel_rfl) (fun _ _ _ _ _ h => h) (fun _ _ h1 h2 => below_S (Nat.le_refl _) h1 h2) (fun k5 hbk5 hek5 hSk5 K hK => ?_)
             (go_simp; refine (hF1.out k5 (sta.out.to hSk5)).mono ?_; rintro e m5 ⟨rfl, hb5⟩)
             refine hK.out _ _ (below_S (Nat.le_refl _) hSk5 hb5) (.inr (.inl hb5)) ?_
             clear hK K hek5
             try simp only [Act.put, List.setIfInBounds_toArray, List.set_cons_zero, List.set_cons_succ])
            (refine kF.takeL (i := 6) (v := ?_) rfl (by kernel_rfl) (fun _ _ _ h => h) (Or.inl ⟨by rfl, ?_⟩) ?_
             rotate_left
             · (intro wS hSw; (try dsimp only at hSw); have hcS := fun b o (h : b < wj.heap.size) => hSw.cell (p := ⟨b, o, none⟩) h; go_simp; (try with_reducible rfl))
             try simp only [Act.put, List.setIfInBounds_toArray, List.set_cons_zero, List.set_cons_succ])
            (refine kF.takeL (i := 7) (v := ?_) rfl (by kernel_rfl) (fun _ _ _ h => h) (Or.inl ⟨by rfl, ?_⟩) ?_
             rotate_left
             · (intro wS hSw; (try dsimp only at hSw); have hcS := fun b o (h : b < wj.heap.size) => hSw.cell (p := ⟨b, o, none⟩) h; go_simp; (try with_reducible rfl))
             try simp only [Act.put, List.setIfInBounds_toArray, List.set_cons_zero, List.set_cons_succ])
            (refine kF.takeL (i := 8) (v := ?_) rfl (by kernel_rfl) (fun _ _ _ h => h) (Or.inl ⟨by rfl, ?_⟩) ?_
             rotate_left
             · (intro wS hSw; (try dsimp only at hSw); have hcS := fun b o (h : b < wj.heap.size) => hSw.cell (p := ⟨b, o, none⟩) h; go_simp; (try with_reducible rfl))
             try simp only [Act.put, List.setIfInBounds_toArray, List.set_cons_zero, List.set_cons_succ])
            (refine kF.settleL (by kernel_rfl) (fun _ _ h1 h2 => below_S (Nat.le_refl _) h1 h2) (fun u9 hbu9 hSu9 v hv => ?_)
             obtain ⟨bu9, hBu9, rfl, hxu9⟩ := hv
             try simp only [Act.put, List.setIfInBounds_toArray, List.set_cons_zero, List.set_cons_succ])
            obtain ⟨c0, c1, c2⟩ := PBox.cells (p := Place.zero) hxu9
            have c3 := PBox.frozen (p := Place.zero) hxu9 0
            have c4 := PBox.frozen (p := Place.zero) hxu9 1
            have c5 := PBox.frozen (p := Place.zero) hxu9 2
            (refine kF.lastL (j := 10) rfl (by kernel_rfl) (fun _ _ _ _ _ h => h) (fun _ _ h1 h2 => below_S (Nat.le_refl _) h1 h2) (fun hSk K hK => ?_)
             go_simp
             refine hK.out _ _ (((hSk.setCell (p := ⟨bu9, 0, none⟩) hBu9 _).setCell (p := ⟨bu9, 1, none⟩) hBu9 _).setCell (p := ⟨bu9, 2, none⟩) hBu9 _) ?_
             clear hK K
             try simp only [Act.put, List.setIfInBounds_toArray, List.set_cons_zero, List.set_cons_succ])
            (refine kF.takeL (i := 11) (v := ?_) rfl (by kernel_rfl) (fun _ _ _ h => h) (Or.inl ⟨by rfl, ?_⟩) ?_
             rotate_left
             · (intro wS hSw; (try dsimp only at hSw); have hcS := fun b o (h : b < wj.heap.size) => hSw.cell (p := ⟨b, o, none⟩) h; go_simp; (try with_reducible rfl))
             try simp only [Act.put, List.setIfInBounds_toArray, List.set_cons_zero, List.set_cons_succ])
            refine kF.done (by kernel_rfl) ?_
            have hSy : Below wj.heap.size wj (((u9.setCell ⟨bu9, 0, none⟩ (.string xp.pack)).setCell ⟨bu9, 1, none⟩ (.int .i64 xp.at_)).setCell ⟨bu9, 2, none⟩ (.int .i64 xp.len)) := ((hSu9.setCell (p := ⟨bu9, 0, none⟩) hBu9 _).setCell (p := ⟨bu9, 1, none⟩) hBu9 _).setCell (p := ⟨bu9, 2, none⟩) hBu9 _
            have pbx : Hid (PBox (((u9.setCell ⟨bu9, 0, none⟩ (.string xp.pack)).setCell ⟨bu9, 1, none⟩ (.int .i64 xp.at_)).setCell ⟨bu9, 2, none⟩ (.int .i64 xp.len)) bu9 xp) := PBox.set3 (p := Place.zero) hxu9 xp
            have hBy : wj.heap.size ≤ bu9 := hBu9
            generalize ((u9.setCell ⟨bu9, 0, none⟩ (.string xp.pack)).setCell ⟨bu9, 1, none⟩ (.int .i64 xp.at_)).setCell ⟨bu9, 2, none⟩ (.int .i64 xp.len) = wy at hSy pbx ⊢
            clear c0 c1 c2 c3 c4 c5 hxu9 hSu9 hbu9 hBu9 hSk5 hbk5 hb5
            --endR11
            replace bs := Lib.hid (bs.out.below hSy)
            replace sst := Lib.hid (sst.out.to hSy)
            replace rD := Lib.hid (rD.out.to hSy)
            replace rP := Lib.hid (rP.out.to hSy)
            replace xa9 := Lib.hid (xa9.out.below hSy)
            replace sta := Lib.hid (sta.out.to hSy)
            replace hg5 := hg5.trans (hSy.mono hg5.size)
            have hby := hbj.trans (hSy.mono hbj.size)
            clear y0 y1 y2 y3 y4 y5 ly yD
            obtain ⟨z0, z1, z2⟩ := pbx.out.cells
            have lz := pbx.out.lt
            obtain ⟨p0, p1, p2⟩ := rP.out.placeAt hxp.out
            have hb9y : b9 < wy.heap.size := by obtain ⟨b', o', e, hb', _⟩ := rP.out.2.2 (by have := hnp.out; omega); simp only [Option.some.injEq, Addr.mk.injEq] at e; omega
            have ne1 := neqSelf xp
            replace hfnd := Lib.hid hfnd
            go_upto_region 12 with fail
            --R12
            refine region_krip (fun W : World => Below wy.heap.size wy W) (by kernel_rfl) ((Below.refl _ _).drew) ?_
            (refine kF.takeL (i := 0) (v := ?_) rfl (by kernel_rfl) (fun _ _ _ h => h) (Or.inl ⟨by rfl, ?_⟩) ?_
             rotate_left
             · (intro wS hSw; (try dsimp only at hSw); have hcS := fun b o (h : b < wy.heap.size) => hSw.cell (p := ⟨b, o, none⟩) h; go_simp; (try with_reducible rfl))
             try simp only [Act.put, List.setIfInBounds_toArray, List.set_cons_zero, List.set_cons_succ])
            (refine kF.takeL (i := 1) (v := ?_) rfl (by kernel_rfl) (fun _ _ _ h => h) (Or.inl ⟨by rfl, ?_⟩) ?_
             rotate_left
             · (intro wS hSw; (try dsimp only at hSw); have hcS := fun b o (h : b < wy.heap.size) => hSw.cell (p := ⟨b, o, none⟩) h; go_simp; (try with_reducible rfl))
             try simp only [Act.put, List.setIfInBounds_toArray, List.set_cons_zero, List.set_cons_succ])
            (refine kF.takeL (i := 2) (v := ?_) rfl (by kernel_rfl) (fun _ _ _ h => h) (Or.inl ⟨by rfl, ?_⟩) ?_
             rotate_left
             · (intro wS hSw; (try dsimp only at hSw); have hcS := fun b o (h : b < wy.heap.size) => hSw.cell (p := ⟨b, o, none⟩) h; go_simp; (try with_reducible rfl))
             try simp only [Act.put, List.setIfInBounds_toArray, List.set_cons_zero, List.set_cons_succ])
            (refine kF.takeL (i := 3) (v := ?_) rfl (by kernel_rfl) (fun _ _ _ h => h) (Or.inl ⟨by rfl, ?_⟩) ?_
             rotate_left
             · (intro wS hSw; (try dsimp only at hSw); have hcS := fun b o (h : b < wy.heap.size) => hSw.cell (p := ⟨b, o, none⟩) h; go_simp; (try with_reducible rfl))
             try simp only [Act.put, List.setIfInBounds_toArray, List.set_cons_zero, List.set_cons_succ])
            (refine kF.takeL (i := 4) (v := ?_) rfl (by kernel_rfl) (fun _ _ _ h => h) (Or.inl ⟨by rfl, ?_⟩) ?_
             rotate_left
             · (intro wS hSw; (try dsimp only at hSw); have hcS := fun b o (h : b < wy.heap.size) => hSw.cell (p := ⟨b, o, none⟩) h; go_simp; (try with_reducible rfl))
             try simp only [Act.put, List.setIfInBounds_toArray, List.set_cons_zero, List.set_cons_succ])
            (refine kF.takeL (i := 5) (v := ?_) rfl (by kernel_rfl) (fun _ _ _ h => h) (Or.inl ⟨by rfl, ?_⟩) ?_
             rotate_left
             · (intro wS hSw; (try dsimp only at hSw); have hcS := fun b o (h : b < wy.heap.size) => hSw.cell (p := ⟨b, o, none⟩) h; go_simp; (try with_reducible rfl))
             try simp only [Act.put, List.setIfInBounds_toArray, List.set_cons_zero, List.set_cons_succ])
            (refine kF.takeL (i := 6) (v := ?_) rfl (by kernel_rfl) (fun _ _ _ h => h) (Or.inl ⟨by rfl, ?_⟩) ?_
             rotate_left
             · (intro wS hSw; (try dsimp only at hSw); have hcS := fun b o (h : b < wy.heap.size) => hSw.cell (p := ⟨b, o, none⟩) h; go_simp; (try with_reducible rfl))
             try simp only [Act.put, List.setIfInBounds_toArray, List.set_cons_zero, List.set_cons_succ])
            (refine kF.takeL (i := 7) (v := ?_) rfl (by kernel_rfl) (fun _ _ _ h => h) (Or.inl ⟨by rfl, ?_⟩) ?_
             rotate_left
             · (intro wS hSw; (try dsimp only at hSw); have hcS := fun b o (h : b < wy.heap.size) => hSw.cell (p := ⟨b, o, none⟩) h; go_simp; (try with_reducible rfl))
             try simp only [Act.put, List.setIfInBounds_toArray, List.set_cons_zero, List.set_cons_succ])
            (refine kF.takeL (i := 8) (v := ?_) rfl (by kernel_rfl) (fun _ _ _ h => h) (Or.inl ⟨by rfl, ?_⟩) ?_
             rotate_left
             · (intro wS hSw; (try dsimp only at hSw); have hcS := fun b o (h : b < wy.heap.size) => hSw.cell (p := ⟨b, o, none⟩) h; go_simp; (try with_reducible rfl))
             try simp only [Act.put, List.setIfInBounds_toArray, List.set_cons_zero, List.set_cons_succ])
            (refine kF.takeL (i := 9) (v := ?_) rfl (by kernel_rfl) (fun _ _ _ h => h) (Or.inl ⟨by rfl, ?_⟩) ?_
             rotate_left
             · (intro wS hSw; (try dsimp only at hSw); have hcS := fun b o (h : b < wy.heap.size) => hSw.cell (p := ⟨b, o, none⟩) h; go_simp; (try with_reducible rfl))
             try simp only [Act.put, List.setIfInBounds_toArray, List.set_cons_zero, List.set_cons_succ])
            refine kF.done (by kernel_rfl) ?_
            --endR12
            go_wp2_with fail
            go_roundw
            case rel => exact ⟨j + 1, by omega, by go_num, (by repeat (first | exact Below.refl _ _ | assumption | refine Below.drew ?_ | refine below_drewN ?_ _ | refine Below.alloc ?_ (by first | omega | (simp; try omega)) _ | refine Below.setCell ?_ (by first | omega | (simp; try omega)) _ | (refine Below.trans ?_ (Below.mono (by assumption) (by first | omega | (simp; try omega))))))⟩
            case measure => simp [intOf]; omega
          · obtain rfl : j = n4 := by omega
            go_wp2_with fail
            go_meet
            exact ⟨⟨_, rfl⟩, hg5⟩
    case rest =>
    as_aux_lemma =>
    obtain ⟨⟨v11, rfl⟩, hbc⟩ := hcut
    obtain ⟨wd, rfl⟩ : ∃ x : World, x = wc := ⟨_, rfl⟩
    replace bs := Lib.hid (bs.out.below hbc)
    replace sst := Lib.hid (sst.out.to hbc)
    replace rD := Lib.hid (rD.out.to hbc)
    replace xa9 := Lib.hid (xa9.out.below hbc)
    replace sta := Lib.hid (sta.out.to hbc)
    replace fw := fw.trans (hbc.mono fw.size)
    have hai : Hid (z1 = 0 → ∀ (i : Nat) (c : ByteArray) (p : Place), cs[i]? = some c → ps[i]? = some p → findP ⟨ka, na, xa, sna, csa, psa⟩ c = (p, 0)) := by
      rcases hcs.out with ⟨z, he, hz⟩ | ⟨c1, p1, ok, he⟩
      · intro h0
        simp only [Prod.mk.injEq] at he
        exact absurd (he.2 ▸ h0) hz
      · simp only [Prod.mk.injEq, St.mk.injEq] at he
        obtain ⟨⟨rfl, rfl, rfl, rfl, rfl, rfl⟩, rfl⟩ := he
        intro _ i c p hc hp
        exact ok.stays hc hp
    have hbi : Hid (z2 = 0 → mayIdx csb psb = true ∧ ∀ (i : Nat) (c : ByteArray) (p : Place), cs[i]? = some c → ps[i]? = some p → (c ∈ D → findP ⟨kb, nb, xb, snb, csb, psb⟩ c = (Place.zero, 5)) ∧ (c ∉ D → findP ⟨kb, nb, xb, snb, csb, psb⟩ c = (p, 0))) := by
      rcases hds.out with ⟨he, _⟩ | ⟨he, _⟩
      · intro h0
        simp only [Prod.mk.injEq] at he
        exact absurd (he.2 ▸ h0) (by decide)
      · simp only [Prod.mk.injEq, St.mk.injEq] at he
        obtain ⟨⟨rfl, rfl, rfl, rfl, rfl, rfl⟩, rfl⟩ := he
        intro _
        exact ⟨mayIdx_drop hm.out, fun i c p hc hp => ⟨fun hin => drop_gone (s := ⟨kb, nb, xb, snb, cs, ps⟩) hm.out hin, fun hout => drop_stays (s := ⟨kb, nb, xb, snb, cs, ps⟩) hm.out hout hc hp⟩⟩
    obtain ⟨x0, x1, x2, x3, x4, x5⟩ := bs.out.cells
    go_wp2_with fail
    refine (hD2.out wd sst.out rD.out (by omega)).mono ?_
    rintro e w5 ⟨B1, Bl1, Bc1, B2, Bl2, Bc2, B3, Bl3, Bc3, rfl, ho5⟩
    have hd5 := ho5.below
    replace bs := Lib.hid (bs.out.below hd5)
    replace sst := Lib.hid (sst.out.to hd5)
    replace rD := Lib.hid (rD.out.to hd5)
    replace xa9 := Lib.hid (xa9.out.below hd5)
    replace sta := Lib.hid (sta.out.to hd5)
    replace fw := fw.trans (hd5.mono fw.size)
    have tstb := ho5.st
    clear ho5 hd5 x0 x1 x2 x3 x4 x5
    obtain ⟨bk, hbk⟩ : ∃ x, x = w5.heap.size := ⟨_, rfl⟩
    obtain ⟨g5w, hg5w⟩ : ∃ x, x = w5.alloc (.cells #[.int .i64 kb, .int .i64 nb, .int .i64 xb, .slice B1 Bl1 Bc1, .slice B2 Bl2 Bc2, .slice B3 Bl3 Bc3] 28) := ⟨_, rfl⟩
    have hf5 : Below w5.heap.size w5 g5w := by rw [hg5w]; exact (Below.refl _ _).alloc (Nat.le_refl _) _
    replace bs := Lib.hid (bs.out.below hf5)
    replace sst := Lib.hid (sst.out.to hf5)
    replace rD := Lib.hid (rD.out.to hf5)
    replace xa9 := Lib.hid (xa9.out.below hf5)
    replace sta := Lib.hid (sta.out.to hf5)
    replace fw := fw.trans (hf5.mono fw.size)
    have xb9 : Hid (BoxAt g5w bk kb nb xb (.slice B1 Bl1 Bc1) (.slice B2 Bl2 Bc2) (.slice B3 Bl3 Bc3)) := by rw [hg5w, hbk]; exact BoxAt.new w5 _ _ _ _ _ _
    have stb := Lib.hid (tstb.to hf5)
    clear tstb hf5
    replace hbk := Lib.hid hbk
    replace hg5w := Lib.hid hg5w
    go_upto_region 15 with fail
    rw [← hbk.out, ← hg5w.out]
    go_cut [115] (fun v115 wc => v115 = .bool false ∧ Below g5w.heap.size g5w wc)
    case first =>
      as_aux_lemma =>
      by_cases hz2 : z2 = 0
      · have g : (z2 == 0) = true := by simpa using hz2
        have hMb9 := hMb.out
        rw [(hbi.out hz2).1] at hMb9
        replace hMb9 := Lib.hid hMb9
        replace hz2 := Lib.hid hz2
        obtain ⟨y0, y1, y2, y3, y4, y5⟩ := xb9.out.cells
        go_wp2_with fail
        refine (hMb9.out B1 Bl1 Bc1 B2 Bl2 Bc2 B3 Bl3 Bc3 g5w stb.out).mono ?_
        rintro e w6 ⟨rfl, hb6⟩
        clear y0 y1 y2 y3 y4 y5
        go_wp2_with fail
        go_meet
        exact ⟨rfl, (by repeat (first | exact Below.refl _ _ | assumption | refine Below.drew ?_ | refine below_drewN ?_ _ | refine Below.alloc ?_ (by first | omega | (simp; try omega)) _ | refine Below.setCell ?_ (by first | omega | (simp; try omega)) _ | (refine Below.trans ?_ (Below.mono (by assumption) (by first | omega | (simp; try omega))))))⟩
      · have g : (z2 == 0) = false := by simpa using hz2
        replace hz2 := Lib.hid hz2
        go_wp2_with fail
        go_meet
        exact ⟨rfl, (by repeat (first | exact Below.refl _ _ | assumption | refine Below.drew ?_ | refine below_drewN ?_ _ | refine Below.alloc ?_ (by first | omega | (simp; try omega)) _ | refine Below.setCell ?_ (by first | omega | (simp; try omega)) _ | (refine Below.trans ?_ (Below.mono (by assumption) (by first | omega | (simp; try omega))))))⟩
    case rest =>
    as_aux_lemma =>
    obtain ⟨rfl, hbf⟩ := hcut
    obtain ⟨wf, rfl⟩ : ∃ x : World, x = wc := ⟨_, rfl⟩
    replace bs := Lib.hid (bs.out.below hbf)
    replace sst := Lib.hid (sst.out.to hbf)
    replace rD := Lib.hid (rD.out.to hbf)
    replace xa9 := Lib.hid (xa9.out.below hbf)
    replace sta := Lib.hid (sta.out.to hbf)
    replace xb9 := Lib.hid (xb9.out.below hbf)
    replace stb := Lib.hid (stb.out.to hbf)
    replace fw := fw.trans (hbf.mono fw.size)
    have hv2 : v2 = cs.length := sst.out.cs.1.symm
    replace hv2 := Lib.hid hv2
    go_wp2_with fail
    go_loopw [16] (fun i wr => ∃ q : Nat, q ≤ v2 ∧ q ≤ 60 ∧ i = .int .i64 q ∧ Below wf.heap.size wf wr) (fun i _ => v2 - (intOf i).toNat)
    case atStart => exact ⟨0, Nat.zero_le _, Nat.zero_le _, rfl, Below.refl _ _⟩
    case round =>
      obtain ⟨q, hq, hq6, rfl, hbq⟩ := hrel
      obtain ⟨wj, hwj0⟩ : ∃ x : World, x = wr := ⟨_, rfl⟩
      rw [← hwj0] at hbq ⊢
      clear hwj0
      replace bs := Lib.hid (bs.out.below hbq)
      replace sst := Lib.hid (sst.out.to hbq)
      replace rD := Lib.hid (rD.out.to hbq)
      replace xa9 := Lib.hid (xa9.out.below hbq)
      replace sta := Lib.hid (sta.out.to hbq)
      replace xb9 := Lib.hid (xb9.out.below hbq)
      replace stb := Lib.hid (stb.out.to hbq)
      replace fw := fw.trans (hbq.mono fw.size)
      by_cases hql : q < v2
      · have hqi : (q : Int) < (v2 : Int) := by omega
        by_cases hq60 : q < 60
        · have hqj : (q : Int) < 60 := by omega
          obtain ⟨xc, hxc⟩ := getElem_some (l := cs) (i := q) (by have := hv2.out; omega)
          obtain ⟨xp, hxp⟩ := getElem_some (l := ps) (i := q) (by have := hv2.out; have := hcp.out.1; omega)
          obtain ⟨⟨fp, fz⟩, hfa⟩ : ∃ x, x = findP ⟨ka, na, xa, sna, csa, psa⟩ xc := ⟨_, rfl⟩
          obtain ⟨⟨gp, gz⟩, hfb⟩ : ∃ x, x = findP ⟨kb, nb, xb, snb, csb, psb⟩ xc := ⟨_, rfl⟩
          have hF1 := hFa.out ⟨A1, Al1, Ac1, A2, Al2, Ac2, A3, Al3, Ac3⟩ xc
          rw [← hfa] at hF1
          simp only [Place.agg] at hF1
          have hF2 := hFb.out ⟨B1, Bl1, Bc1, B2, Bl2, Bc2, B3, Bl3, Bc3⟩ xc
          rw [← hfb] at hF2
          simp only [Place.agg] at hF2
          have hfa0 : Hid (z1 = 0 → fp = xp ∧ fz = 0) := fun h0 => by
            have e := hai.out h0 q xc xp hxc hxp
            rw [← hfa] at e
            simpa using e
          have hfb0 : Hid (z2 = 0 → (xc ∈ D → gz = 5) ∧ (xc ∉ D → gp = xp ∧ gz = 0)) := fun h0 => by
            have e := (hbi.out h0).2 q xc xp hxc hxp
            rw [← hfb] at e
            exact ⟨fun hin => by have := e.1 hin; simp at this; exact this.2, fun hout => by have := e.2 hout; simpa using this⟩
          replace hF1 := Lib.hid hF1
          replace hF2 := Lib.hid hF2
          replace hfa := Lib.hid hfa
          replace hfb := Lib.hid hfb
          have hcV := sst.out.cs
          have hpV := sst.out.ps
          dsimp only at hcV hpV
          obtain ⟨b8, o8, hA8, hb8⟩ := hcV.addrOf hql
          obtain ⟨b9, o9, hA9, hb9⟩ := hpV.addrOf (by have := hpV.1; have := hcp.out.1; have := hv2.out; omega : q < v3)
          subst hA8
          subst hA9
          have y8 := hcV.strAt hxc
          have hq3 : q < v3 := by have := hpV.1; have := hcp.out.1; have := hv2.out; omega
          have hq3i : (q : Int) < (v3 : Int) := by omega
          replace hcV := Lib.hid hcV
          replace hpV := Lib.hid hpV
          obtain ⟨x0, x1, x2, x3, x4, x5⟩ := bs.out.cells
          have lx := bs.out.lt
          obtain ⟨y0, y1, y2, y3, y4, y5⟩ := xa9.out.cells
          have ly := xa9.out.lt
          replace hxc := Lib.hid hxc
          replace hxp := Lib.hid hxp
          go_upto_region 20 with fail
          --R20
          refine region_krip (fun W : World => Below wj.heap.size wj W) (by kernel_rfl) ((Below.refl _ _).drew) ?_
          (refine kF.takeL (i := 0) (v := ?_) rfl (by kernel_rfl) (fun _ _ _ h => h) (Or.inl ⟨by rfl, ?_⟩) ?_
           rotate_left
           · (intro wS hSw; (try dsimp only at hSw); have hcS := fun b o (h : b < wj.heap.size) => hSw.cell (p := ⟨b, o, none⟩) h; go_simp; (try with_reducible rfl))
           try simp only [Act.put, List.setIfInBounds_toArray, List.set_cons_zero, List.set_cons_succ])
          (refine kF.takeL (i := 1) (v := ?_) rfl (by kernel_rfl) (fun _ _ _ h => h) (Or.inl ⟨by rfl, ?_⟩) ?_
           rotate_left
           · (intro wS hSw; (try dsimp only at hSw); have hcS := fun b o (h : b < wj.heap.size) => hSw.cell (p := ⟨b, o, none⟩) h; go_simp; (try with_reducible rfl))
           try simp only [Act.put, List.setIfInBounds_toArray, List.set_cons_zero, List.set_cons_succ])
          (refine kF.takeL (i := 2) (v := ?_) rfl (by kernel_rfl) (fun _ _ _ h => h) (Or.inl ⟨by rfl, ?_⟩) ?_
           rotate_left
           · (intro wS hSw; (try dsimp only at hSw); have hcS := fun b o (h : b < wj.heap.size) => hSw.cell (p := ⟨b, o, none⟩) h; go_simp; (try with_reducible rfl))
           try simp only [Act.put, List.setIfInBounds_toArray, List.set_cons_zero, List.set_cons_succ])
          (refine kF.takeL (i := 3) (v := ?_) rfl (by kernel_rfl) (fun _ _ _ h => h) (Or.inl ⟨by rfl, ?_⟩) ?_
           rotate_left
           · (intro wS hSw; (try dsimp only at hSw); have hcS := fun b o (h : b < wj.heap.size) => hSw.cell (p := ⟨b, o, none⟩) h; go_simp; (try with_reducible rfl))
           try simp only [Act.put, List.setIfInBounds_toArray, List.set_cons_zero, List.set_cons_succ])
          (refine kF.takeL (i := 4) (v := ?_) rfl (by kernel_rfl) (fun _ _ _ h => h) (Or.inl ⟨by rfl, ?_⟩) ?_
           rotate_left
           · (intro wS hSw; (try dsimp only at hSw); have hcS := fun b o (h : b < wj.heap.size) => hSw.cell (p := ⟨b, o, none⟩) h; go_simp; (try with_reducible rfl))
           try simp only [Act.put, List.setIfInBounds_toArray, List.set_cons_zero, List.set_cons_succ])
          (refine kF.takeL (i := 5) (v := ?_) rfl (by kernel_rfl) (fun _ _ _ h => h) (Or.inl ⟨by rfl, ?_⟩) ?_
           rotate_left
           · (intro wS hSw; (try dsimp only at hSw); have hcS := fun b o (h : b < wj.heap.size) => hSw.cell (p := ⟨b, o, none⟩) h; go_simp; (try with_reducible rfl))
           try simp only [Act.put, List.setIfInBounds_toArray, List.set_cons_zero, List.set_cons_succ])
          (refine kF.newL (i := 10) (fun b => .pointer (some ⟨b, 0, none⟩)) (.cells #[.string ⟨#[]⟩, .int .i64 0, .int .i64 0] 34) rfl (by kernel_rfl) (by rfl) ?_ ?_
           · (intro wS; go_simp; (try with_reducible rfl)))
          (refine kF.onlyL (j := 6) rfl (by kernel_rfl) (fun _ _ _ _ _ h => h) (fun _ _ h1 h2 => below_S (Nat.le_refl _) h1 h2) (fun k6 hbk6 hek6 hSk6 K hK => ?_)
           (go_simp; refine (hF1.out k6 (sta.out.to hSk6)).mono ?_; rintro e m6 ⟨rfl, hb6⟩)
           refine hK.out _ _ (below_S (Nat.le_refl _) hSk6 hb6) (.inr (.inl hb6)) ?_
           clear hK K hek6
           try simp only [Act.put, List.setIfInBounds_toArray, List.set_cons_zero, List.set_cons_succ])
          (refine kF.takeL (i := 7) (v := ?_) rfl (by kernel_rfl) (fun _ _ _ h => h) (Or.inl ⟨by rfl, ?_⟩) ?_
           rotate_left
           · (intro wS hSw; (try dsimp only at hSw); have hcS := fun b o (h : b < wj.heap.size) => hSw.cell (p := ⟨b, o, none⟩) h; go_simp; (try with_reducible rfl))
           try simp only [Act.put, List.setIfInBounds_toArray, List.set_cons_zero, List.set_cons_succ])
          (refine kF.takeL (i := 8) (v := ?_) rfl (by kernel_rfl) (fun _ _ _ h => h) (Or.inl ⟨by rfl, ?_⟩) ?_
           rotate_left
           · (intro wS hSw; (try dsimp only at hSw); have hcS := fun b o (h : b < wj.heap.size) => hSw.cell (p := ⟨b, o, none⟩) h; go_simp; (try with_reducible rfl))
           try simp only [Act.put, List.setIfInBounds_toArray, List.set_cons_zero, List.set_cons_succ])
          (refine kF.takeL (i := 9) (v := ?_) rfl (by kernel_rfl) (fun _ _ _ h => h) (Or.inl ⟨by rfl, ?_⟩) ?_
           rotate_left
           · (intro wS hSw; (try dsimp only at hSw); have hcS := fun b o (h : b < wj.heap.size) => hSw.cell (p := ⟨b, o, none⟩) h; go_simp; (try with_reducible rfl))
           try simp only [Act.put, List.setIfInBounds_toArray, List.set_cons_zero, List.set_cons_succ])
          (refine kF.settleL (by kernel_rfl) (fun _ _ h1 h2 => below_S (Nat.le_refl _) h1 h2) (fun u10 hbu10 hSu10 v hv => ?_)
           obtain ⟨bu10, hBu10, rfl, hxu10⟩ := hv
           try simp only [Act.put, List.setIfInBounds_toArray, List.set_cons_zero, List.set_cons_succ])
          obtain ⟨c0, c1, c2⟩ := PBox.cells (p := Place.zero) hxu10
          have c3 := PBox.frozen (p := Place.zero) hxu10 0
          have c4 := PBox.frozen (p := Place.zero) hxu10 1
          have c5 := PBox.frozen (p := Place.zero) hxu10 2
          (refine kF.lastL (j := 11) rfl (by kernel_rfl) (fun _ _ _ _ _ h => h) (fun _ _ h1 h2 => below_S (Nat.le_refl _) h1 h2) (fun hSk K hK => ?_)
           go_simp
           refine hK.out _ _ (((hSk.setCell (p := ⟨bu10, 0, none⟩) hBu10 _).setCell (p := ⟨bu10, 1, none⟩) hBu10 _).setCell (p := ⟨bu10, 2, none⟩) hBu10 _) ?_
           clear hK K
           try simp only [Act.put, List.setIfInBounds_toArray, List.set_cons_zero, List.set_cons_succ])
          (refine kF.takeL (i := 12) (v := ?_) rfl (by kernel_rfl) (fun _ _ _ h => h) (Or.inl ⟨by rfl, ?_⟩) ?_
           rotate_left
           · (intro wS hSw; (try dsimp only at hSw); have hcS := fun b o (h : b < wj.heap.size) => hSw.cell (p := ⟨b, o, none⟩) h; go_simp; (try with_reducible rfl))
           try simp only [Act.put, List.setIfInBounds_toArray, List.set_cons_zero, List.set_cons_succ])
          refine kF.done (by kernel_rfl) ?_
          have hSy : Below wj.heap.size wj (((u10.setCell ⟨bu10, 0, none⟩ (.string fp.pack)).setCell ⟨bu10, 1, none⟩ (.int .i64 fp.at_)).setCell ⟨bu10, 2, none⟩ (.int .i64 fp.len)) := ((hSu10.setCell (p := ⟨bu10, 0, none⟩) hBu10 _).setCell (p := ⟨bu10, 1, none⟩) hBu10 _).setCell (p := ⟨bu10, 2, none⟩) hBu10 _
          have pbx : Hid (PBox (((u10.setCell ⟨bu10, 0, none⟩ (.string fp.pack)).setCell ⟨bu10, 1, none⟩ (.int .i64 fp.at_)).setCell ⟨bu10, 2, none⟩ (.int .i64 fp.len)) bu10 fp) := PBox.set3 (p := Place.zero) hxu10 fp
          have hBy : wj.heap.size ≤ bu10 := hBu10
          generalize ((u10.setCell ⟨bu10, 0, none⟩ (.string fp.pack)).setCell ⟨bu10, 1, none⟩ (.int .i64 fp.at_)).setCell ⟨bu10, 2, none⟩ (.int .i64 fp.len) = wy at hSy pbx ⊢
          clear c0 c1 c2 c3 c4 c5 hxu10 hSu10 hbu10 hBu10 hSk6 hbk6 hb6
          --endR20
          have yB := hSy
          clear x0 x1 x2 x3 x4 x5 y0 y1 y2 y3 y4 y5 y8
          obtain ⟨x0, x1, x2, x3, x4, x5⟩ := (bs.out.below hSy).cells
          have lxy := (bs.out.below hSy).lt
          obtain ⟨z0, z1', z2'⟩ := pbx.out.cells
          have lz := pbx.out.lt
          have hpW := hpV.out.to hSy
          obtain ⟨p0, p1, p2⟩ := hpW.placeAt hxp.out
          have hb9y : b9 < wy.heap.size := by obtain ⟨b', o', e, hb', _⟩ := hpW.2.2 (by omega); simp only [Option.some.injEq, Addr.mk.injEq] at e; omega
          replace hpW := Lib.hid hpW
          go_upto_region 21 with fail
          go_cut [151] (fun v151 wc => v151 = .bool false ∧ Below wy.heap.size wy wc)
          case first =>
            as_aux_lemma =>
            by_cases hz1 : z1 = 0
            · have g : (z1 == 0) = true := by simpa using hz1
              obtain ⟨hf1, hf2⟩ := hfa0.out hz1
              have g2 : (fz != 0) = false := by simpa using hf2
              have ne1 : ∀ w : World, (binOp .neq 34 (.agg #[.string fp.pack, .int .i64 fp.at_, .int .i64 fp.len]) (.agg #[.string xp.pack, .int .i64 xp.at_, .int .i64 xp.len])).run Try.prog w = .ok (.bool false) w := by
                intro w
                rw [hf1]
                exact neqSelf xp w
              replace hz1 := Lib.hid hz1
              replace hf1 := Lib.hid hf1
              replace hf2 := Lib.hid hf2
              --R21a
              refine region_krip (fun W : World => Below wy.heap.size wy W) (by kernel_rfl) ((Below.refl _ _).drew) ?_
              (refine kF.takeL (i := 0) (v := ?_) rfl (by kernel_rfl) (fun _ _ _ h => h) (Or.inl ⟨by rfl, ?_⟩) ?_
               rotate_left
               · (intro wS hSw; (try dsimp only at hSw); have hcS := fun b o (h : b < wy.heap.size) => hSw.cell (p := ⟨b, o, none⟩) h; go_simp; (try with_reducible rfl))
               try simp only [Act.put, List.setIfInBounds_toArray, List.set_cons_zero, List.set_cons_succ])
              (refine kF.takeL (i := 1) (v := ?_) rfl (by kernel_rfl) (fun _ _ _ h => h) (Or.inl ⟨by rfl, ?_⟩) ?_
               rotate_left
               · (intro wS hSw; (try dsimp only at hSw); have hcS := fun b o (h : b < wy.heap.size) => hSw.cell (p := ⟨b, o, none⟩) h; go_simp; (try with_reducible rfl))
               try simp only [Act.put, List.setIfInBounds_toArray, List.set_cons_zero, List.set_cons_succ])
              (refine kF.takeL (i := 2) (v := ?_) rfl (by kernel_rfl) (fun _ _ _ h => h) (Or.inl ⟨by rfl, ?_⟩) ?_
               rotate_left
               · (intro wS hSw; (try dsimp only at hSw); have hcS := fun b o (h : b < wy.heap.size) => hSw.cell (p := ⟨b, o, none⟩) h; go_simp; (try with_reducible rfl))
               try simp only [Act.put, List.setIfInBounds_toArray, List.set_cons_zero, List.set_cons_succ])
              (refine kF.takeL (i := 3) (v := ?_) rfl (by kernel_rfl) (fun _ _ _ h => h) (Or.inl ⟨by rfl, ?_⟩) ?_
               rotate_left
               · (intro wS hSw; (try dsimp only at hSw); have hcS := fun b o (h : b < wy.heap.size) => hSw.cell (p := ⟨b, o, none⟩) h; go_simp; (try with_reducible rfl))
               try simp only [Act.put, List.setIfInBounds_toArray, List.set_cons_zero, List.set_cons_succ])
              (refine kF.takeL (i := 4) (v := ?_) rfl (by kernel_rfl) (fun _ _ _ h => h) (Or.inl ⟨by rfl, ?_⟩) ?_
               rotate_left
               · (intro wS hSw; (try dsimp only at hSw); have hcS := fun b o (h : b < wy.heap.size) => hSw.cell (p := ⟨b, o, none⟩) h; go_simp; (try with_reducible rfl))
               try simp only [Act.put, List.setIfInBounds_toArray, List.set_cons_zero, List.set_cons_succ])
              (refine kF.takeL (i := 5) (v := ?_) rfl (by kernel_rfl) (fun _ _ _ h => h) (Or.inl ⟨by rfl, ?_⟩) ?_
               rotate_left
               · (intro wS hSw; (try dsimp only at hSw); have hcS := fun b o (h : b < wy.heap.size) => hSw.cell (p := ⟨b, o, none⟩) h; go_simp; (try with_reducible rfl))
               try simp only [Act.put, List.setIfInBounds_toArray, List.set_cons_zero, List.set_cons_succ])
              (refine kF.takeL (i := 6) (v := ?_) rfl (by kernel_rfl) (fun _ _ _ h => h) (Or.inl ⟨by rfl, ?_⟩) ?_
               rotate_left
               · (intro wS hSw; (try dsimp only at hSw); have hcS := fun b o (h : b < wy.heap.size) => hSw.cell (p := ⟨b, o, none⟩) h; go_simp; (try with_reducible rfl))
               try simp only [Act.put, List.setIfInBounds_toArray, List.set_cons_zero, List.set_cons_succ])
              (refine kF.takeL (i := 7) (v := ?_) rfl (by kernel_rfl) (fun _ _ _ h => h) (Or.inl ⟨by rfl, ?_⟩) ?_
               rotate_left
               · (intro wS hSw; (try dsimp only at hSw); have hcS := fun b o (h : b < wy.heap.size) => hSw.cell (p := ⟨b, o, none⟩) h; go_simp; (try with_reducible rfl))
               try simp only [Act.put, List.setIfInBounds_toArray, List.set_cons_zero, List.set_cons_succ])
              (refine kF.takeL (i := 8) (v := ?_) rfl (by kernel_rfl) (fun _ _ _ h => h) (Or.inl ⟨by rfl, ?_⟩) ?_
               rotate_left
               · (intro wS hSw; (try dsimp only at hSw); have hcS := fun b o (h : b < wy.heap.size) => hSw.cell (p := ⟨b, o, none⟩) h; go_simp; (try with_reducible rfl))
               try simp only [Act.put, List.setIfInBounds_toArray, List.set_cons_zero, List.set_cons_succ])
              (refine kF.takeL (i := 9) (v := ?_) rfl (by kernel_rfl) (fun _ _ _ h => h) (Or.inl ⟨by rfl, ?_⟩) ?_
               rotate_left
               · (intro wS hSw; (try dsimp only at hSw); have hcS := fun b o (h : b < wy.heap.size) => hSw.cell (p := ⟨b, o, none⟩) h; go_simp; (try with_reducible rfl))
               try simp only [Act.put, List.setIfInBounds_toArray, List.set_cons_zero, List.set_cons_succ])
              (refine kF.takeL (i := 10) (v := ?_) rfl (by kernel_rfl) (fun _ _ _ h => h) (Or.inl ⟨by rfl, ?_⟩) ?_
               rotate_left
               · (intro wS hSw; (try dsimp only at hSw); have hcS := fun b o (h : b < wy.heap.size) => hSw.cell (p := ⟨b, o, none⟩) h; go_simp; (try with_reducible rfl))
               try simp only [Act.put, List.setIfInBounds_toArray, List.set_cons_zero, List.set_cons_succ])
              (refine kF.takeL (i := 11) (v := ?_) rfl (by kernel_rfl) (fun _ _ _ h => h) (Or.inl ⟨by rfl, ?_⟩) ?_
               rotate_left
               · (intro wS hSw; (try dsimp only at hSw); have hcS := fun b o (h : b < wy.heap.size) => hSw.cell (p := ⟨b, o, none⟩) h; go_simp; (try with_reducible rfl))
               try simp only [Act.put, List.setIfInBounds_toArray, List.set_cons_zero, List.set_cons_succ])
              (refine kF.takeL (i := 12) (v := ?_) rfl (by kernel_rfl) (fun _ _ _ h => h) (Or.inl ⟨by rfl, ?_⟩) ?_
               rotate_left
               · (intro wS hSw; (try dsimp only at hSw); have hcS := fun b o (h : b < wy.heap.size) => hSw.cell (p := ⟨b, o, none⟩) h; go_simp; (try with_reducible rfl))
               try simp only [Act.put, List.setIfInBounds_toArray, List.set_cons_zero, List.set_cons_succ])
              (refine kF.takeL (i := 13) (v := ?_) rfl (by kernel_rfl) (fun _ _ _ h => h) (Or.inl ⟨by rfl, ?_⟩) ?_
               rotate_left
               · (intro wS hSw; (try dsimp only at hSw); have hcS := fun b o (h : b < wy.heap.size) => hSw.cell (p := ⟨b, o, none⟩) h; go_simp; (try with_reducible rfl))
               try simp only [Act.put, List.setIfInBounds_toArray, List.set_cons_zero, List.set_cons_succ])
              (refine kF.takeL (i := 14) (v := ?_) rfl (by kernel_rfl) (fun _ _ _ h => h) (Or.inl ⟨by rfl, ?_⟩) ?_
               rotate_left
               · (intro wS hSw; (try dsimp only at hSw); have hcS := fun b o (h : b < wy.heap.size) => hSw.cell (p := ⟨b, o, none⟩) h; go_simp; (try with_reducible rfl))
               try simp only [Act.put, List.setIfInBounds_toArray, List.set_cons_zero, List.set_cons_succ])
              refine kF.done (by kernel_rfl) ?_
              --endR21a
              go_wp2_with fail
              go_meet
              exact ⟨rfl, (by repeat (first | exact Below.refl _ _ | assumption | refine Below.drew ?_ | refine below_drewN ?_ _ | refine Below.alloc ?_ (by first | omega | (simp; try omega)) _ | refine Below.setCell ?_ (by first | omega | (simp; try omega)) _ | (refine Below.trans ?_ (Below.mono (by assumption) (by first | omega | (simp; try omega))))))⟩
            · have g : (z1 == 0) = false := by simpa using hz1
              replace hz1 := Lib.hid hz1
              --R21b
              refine region_krip (fun W : World => Below wy.heap.size wy W) (by kernel_rfl) ((Below.refl _ _).drew) ?_
              (refine kF.takeL (i := 0) (v := ?_) rfl (by kernel_rfl) (fun _ _ _ h => h) (Or.inl ⟨by rfl, ?_⟩) ?_
               rotate_left
               · (intro wS hSw; (try dsimp only at hSw); have hcS := fun b o (h : b < wy.heap.size) => hSw.cell (p := ⟨b, o, none⟩) h; go_simp; (try with_reducible rfl))
               try simp only [Act.put, List.setIfInBounds_toArray, List.set_cons_zero, List.set_cons_succ])
              (refine kF.takeL (i := 1) (v := ?_) rfl (by kernel_rfl) (fun _ _ _ h => h) (Or.inl ⟨by rfl, ?_⟩) ?_
               rotate_left
               · (intro wS hSw; (try dsimp only at hSw); have hcS := fun b o (h : b < wy.heap.size) => hSw.cell (p := ⟨b, o, none⟩) h; go_simp; (try with_reducible rfl))
               try simp only [Act.put, List.setIfInBounds_toArray, List.set_cons_zero, List.set_cons_succ])
              (refine kF.takeL (i := 2) (v := ?_) rfl (by kernel_rfl) (fun _ _ _ h => h) (Or.inl ⟨by rfl, ?_⟩) ?_
               rotate_left
               · (intro wS hSw; (try dsimp only at hSw); have hcS := fun b o (h : b < wy.heap.size) => hSw.cell (p := ⟨b, o, none⟩) h; go_simp; (try with_reducible rfl))
               try simp only [Act.put, List.setIfInBounds_toArray, List.set_cons_zero, List.set_cons_succ])
              (refine kF.takeL (i := 3) (v := undef) rfl (by kernel_rfl) (fun _ _ _ h => h) (Or.inr ⟨by rfl, rfl⟩) ?_
               try simp only [Act.put, List.setIfInBounds_toArray, List.set_cons_zero, List.set_cons_succ])
              (refine kF.takeL (i := 4) (v := undef) rfl (by kernel_rfl) (fun _ _ _ h => h) (Or.inr ⟨by rfl, rfl⟩) ?_
               try simp only [Act.put, List.setIfInBounds_toArray, List.set_cons_zero, List.set_cons_succ])
              (refine kF.takeL (i := 5) (v := undef) rfl (by kernel_rfl) (fun _ _ _ h => h) (Or.inr ⟨by rfl, rfl⟩) ?_
               try simp only [Act.put, List.setIfInBounds_toArray, List.set_cons_zero, List.set_cons_succ])
              (refine kF.takeL (i := 6) (v := undef) rfl (by kernel_rfl) (fun _ _ _ h => h) (Or.inr ⟨by rfl, rfl⟩) ?_
               try simp only [Act.put, List.setIfInBounds_toArray, List.set_cons_zero, List.set_cons_succ])
              (refine kF.takeL (i := 7) (v := undef) rfl (by kernel_rfl) (fun _ _ _ h => h) (Or.inr ⟨by rfl, rfl⟩) ?_
               try simp only [Act.put, List.setIfInBounds_toArray, List.set_cons_zero, List.set_cons_succ])
              (refine kF.takeL (i := 8) (v := undef) rfl (by kernel_rfl) (fun _ _ _ h => h) (Or.inr ⟨by rfl, rfl⟩) ?_
               try simp only [Act.put, List.setIfInBounds_toArray, List.set_cons_zero, List.set_cons_succ])
              (refine kF.takeL (i := 9) (v := undef) rfl (by kernel_rfl) (fun _ _ _ h => h) (Or.inr ⟨by rfl, rfl⟩) ?_
               try simp only [Act.put, List.setIfInBounds_toArray, List.set_cons_zero, List.set_cons_succ])
              (refine kF.takeL (i := 10) (v := undef) rfl (by kernel_rfl) (fun _ _ _ h => h) (Or.inr ⟨by rfl, rfl⟩) ?_
               try simp only [Act.put, List.setIfInBounds_toArray, List.set_cons_zero, List.set_cons_succ])
              (refine kF.takeL (i := 11) (v := undef) rfl (by kernel_rfl) (fun _ _ _ h => h) (Or.inr ⟨by rfl, rfl⟩) ?_
               try simp only [Act.put, List.setIfInBounds_toArray, List.set_cons_zero, List.set_cons_succ])
              (refine kF.takeL (i := 12) (v := undef) rfl (by kernel_rfl) (fun _ _ _ h => h) (Or.inr ⟨by rfl, rfl⟩) ?_
               try simp only [Act.put, List.setIfInBounds_toArray, List.set_cons_zero, List.set_cons_succ])
              (refine kF.takeL (i := 13) (v := undef) rfl (by kernel_rfl) (fun _ _ _ h => h) (Or.inr ⟨by rfl, rfl⟩) ?_
               try simp only [Act.put, List.setIfInBounds_toArray, List.set_cons_zero, List.set_cons_succ])
              (refine kF.takeL (i := 14) (v := ?_) rfl (by kernel_rfl) (fun _ _ _ h => h) (Or.inl ⟨by rfl, ?_⟩) ?_
               rotate_left
               · (intro wS hSw; (try dsimp only at hSw); have hcS := fun b o (h : b < wy.heap.size) => hSw.cell (p := ⟨b, o, none⟩) h; go_simp; (try with_reducible rfl))
               try simp only [Act.put, List.setIfInBounds_toArray, List.set_cons_zero, List.set_cons_succ])
              refine kF.done (by kernel_rfl) ?_
              --endR21b
              go_wp2_with fail
              go_meet
              exact ⟨rfl, (by repeat (first | exact Below.refl _ _ | assumption | refine Below.drew ?_ | refine below_drewN ?_ _ | refine Below.alloc ?_ (by first | omega | (simp; try omega)) _ | refine Below.setCell ?_ (by first | omega | (simp; try omega)) _ | (refine Below.trans ?_ (Below.mono (by assumption) (by first | omega | (simp; try omega))))))⟩
          case rest =>
          as_aux_lemma =>
          obtain ⟨rfl, hbz⟩ := hcut
          obtain ⟨wz, hwz0⟩ : ∃ x : World, x = wc := ⟨_, rfl⟩
          rw [← hwz0] at hbz ⊢
          clear hwz0 x0 x1 x2 x3 x4 x5 lxy z0 z1' z2' lz p0 p1 p2 hb9y hpW
          go_wp2_with fail
          go_loopw [19, 20] (fun g i wr => ∃ (j : Nat) (kg : Bool), j ≤ n4 ∧ i = .int .i64 j ∧ g = .bool kg ∧ Hid (kg = decide (xc ∈ D.take j)) ∧ Below wz.heap.size wz wr) (fun _ i _ => n4 - (intOf i).toNat)
          case atStart => exact ⟨0, false, Nat.zero_le _, rfl, rfl, by simp [Hid], Below.refl _ _⟩
          case round =>
            obtain ⟨j, kg, hj, rfl, rfl, hkg, hbg⟩ := hrel
            obtain ⟨wk, hwk0⟩ : ∃ x : World, x = wr := ⟨_, rfl⟩
            rw [← hwk0] at hbg ⊢
            clear hwk0
            have hbyk : Below wy.heap.size wy wk := hbz.trans (hbg.mono hbz.size)
            have hch : Below wj.heap.size wj wk := hSy.trans (hbyk.mono hSy.size)
            obtain ⟨x0, x1, x2, x3, x4, x5⟩ := (bs.out.below hch).cells
            have hcW := hcV.out.to hch
            have y8 := hcW.strAt hxc.out
            by_cases hjl : j < n4
            · have hji : (j : Int) < (n4 : Int) := by omega
              have lxk := (bs.out.below hch).lt
              have hb8k : b8 < wk.heap.size := by obtain ⟨b', o', e, hb', _⟩ := hcW.2.2 (by omega); simp only [Option.some.injEq, Addr.mk.injEq] at e; omega
              obtain ⟨xd, hxd⟩ := getElem_some (l := D) (i := j) (by have := lD.out; omega)
              have hDk := rD.out.to hch
              obtain ⟨b7, o7, hA7, hb7⟩ := hDk.addrOf hjl
              subst hA7
              have y7 := hDk.strAt hxd
              have hkn := known_next (other := xc) hxd
              rw [← hkg.out] at hkn
              replace hkn := Lib.hid hkn
              replace hxd := Lib.hid hxd
              replace hDk := Lib.hid hDk
              replace hcW := Lib.hid hcW
              go_upto_region 27 with fail
              cases kg
              · by_cases he : xd = xc
                · have h9 := str_eq he
                  have hv : Hid (true = decide (xc ∈ D.take (j + 1))) := by unfold Hid; rw [hkn.out]; simp [he]
                  replace he := Lib.hid he
                  --R27b
                  refine region_krip (fun W : World => Below wk.heap.size wk W) (by kernel_rfl) ((Below.refl _ _).drew) ?_
                  (refine kF.takeL (i := 0) (v := ?_) rfl (by kernel_rfl) (fun _ _ _ h => h) (Or.inl ⟨by rfl, ?_⟩) ?_
                   rotate_left
                   · (intro wS hSw; (try dsimp only at hSw); have hcS := fun b o (h : b < wk.heap.size) => hSw.cell (p := ⟨b, o, none⟩) h; go_simp; (try with_reducible rfl))
                   try simp only [Act.put, List.setIfInBounds_toArray, List.set_cons_zero, List.set_cons_succ])
                  (refine kF.takeL (i := 1) (v := ?_) rfl (by kernel_rfl) (fun _ _ _ h => h) (Or.inl ⟨by rfl, ?_⟩) ?_
                   rotate_left
                   · (intro wS hSw; (try dsimp only at hSw); have hcS := fun b o (h : b < wk.heap.size) => hSw.cell (p := ⟨b, o, none⟩) h; go_simp; (try with_reducible rfl))
                   try simp only [Act.put, List.setIfInBounds_toArray, List.set_cons_zero, List.set_cons_succ])
                  (refine kF.takeL (i := 2) (v := ?_) rfl (by kernel_rfl) (fun _ _ _ h => h) (Or.inl ⟨by rfl, ?_⟩) ?_
                   rotate_left
                   · (intro wS hSw; (try dsimp only at hSw); have hcS := fun b o (h : b < wk.heap.size) => hSw.cell (p := ⟨b, o, none⟩) h; go_simp; (try with_reducible rfl))
                   try simp only [Act.put, List.setIfInBounds_toArray, List.set_cons_zero, List.set_cons_succ])
                  (refine kF.takeL (i := 3) (v := ?_) rfl (by kernel_rfl) (fun _ _ _ h => h) (Or.inl ⟨by rfl, ?_⟩) ?_
                   rotate_left
                   · (intro wS hSw; (try dsimp only at hSw); have hcS := fun b o (h : b < wk.heap.size) => hSw.cell (p := ⟨b, o, none⟩) h; go_simp; (try with_reducible rfl))
                   try simp only [Act.put, List.setIfInBounds_toArray, List.set_cons_zero, List.set_cons_succ])
                  (refine kF.takeL (i := 4) (v := ?_) rfl (by kernel_rfl) (fun _ _ _ h => h) (Or.inl ⟨by rfl, ?_⟩) ?_
                   rotate_left
                   · (intro wS hSw; (try dsimp only at hSw); have hcS := fun b o (h : b < wk.heap.size) => hSw.cell (p := ⟨b, o, none⟩) h; go_simp; (try with_reducible rfl))
                   try simp only [Act.put, List.setIfInBounds_toArray, List.set_cons_zero, List.set_cons_succ])
                  (refine kF.takeL (i := 5) (v := ?_) rfl (by kernel_rfl) (fun _ _ _ h => h) (Or.inl ⟨by rfl, ?_⟩) ?_
                   rotate_left
                   · (intro wS hSw; (try dsimp only at hSw); have hcS := fun b o (h : b < wk.heap.size) => hSw.cell (p := ⟨b, o, none⟩) h; go_simp; (try with_reducible rfl))
                   try simp only [Act.put, List.setIfInBounds_toArray, List.set_cons_zero, List.set_cons_succ])
                  (refine kF.takeL (i := 6) (v := ?_) rfl (by kernel_rfl) (fun _ _ _ h => h) (Or.inl ⟨by rfl, ?_⟩) ?_
                   rotate_left
                   · (intro wS hSw; (try dsimp only at hSw); have hcS := fun b o (h : b < wk.heap.size) => hSw.cell (p := ⟨b, o, none⟩) h; go_simp; (try with_reducible rfl))
                   try simp only [Act.put, List.setIfInBounds_toArray, List.set_cons_zero, List.set_cons_succ])
                  (refine kF.takeL (i := 7) (v := ?_) rfl (by kernel_rfl) (fun _ _ _ h => h) (Or.inl ⟨by rfl, ?_⟩) ?_
                   rotate_left
                   · (intro wS hSw; (try dsimp only at hSw); have hcS := fun b o (h : b < wk.heap.size) => hSw.cell (p := ⟨b, o, none⟩) h; go_simp; (try with_reducible rfl))
                   try simp only [Act.put, List.setIfInBounds_toArray, List.set_cons_zero, List.set_cons_succ])
                  (refine kF.takeL (i := 8) (v := ?_) rfl (by kernel_rfl) (fun _ _ _ h => h) (Or.inl ⟨by rfl, ?_⟩) ?_
                   rotate_left
                   · (intro wS hSw; (try dsimp only at hSw); have hcS := fun b o (h : b < wk.heap.size) => hSw.cell (p := ⟨b, o, none⟩) h; go_simp; (try with_reducible rfl))
                   try simp only [Act.put, List.setIfInBounds_toArray, List.set_cons_zero, List.set_cons_succ])
                  (refine kF.takeL (i := 9) (v := ?_) rfl (by kernel_rfl) (fun _ _ _ h => h) (Or.inl ⟨by rfl, ?_⟩) ?_
                   rotate_left
                   · (intro wS hSw; (try dsimp only at hSw); have hcS := fun b o (h : b < wk.heap.size) => hSw.cell (p := ⟨b, o, none⟩) h; go_simp; (try with_reducible rfl))
                   try simp only [Act.put, List.setIfInBounds_toArray, List.set_cons_zero, List.set_cons_succ])
                  (refine kF.takeL (i := 10) (v := ?_) rfl (by kernel_rfl) (fun _ _ _ h => h) (Or.inl ⟨by rfl, ?_⟩) ?_
                   rotate_left
                   · (intro wS hSw; (try dsimp only at hSw); have hcS := fun b o (h : b < wk.heap.size) => hSw.cell (p := ⟨b, o, none⟩) h; go_simp; (try with_reducible rfl))
                   try simp only [Act.put, List.setIfInBounds_toArray, List.set_cons_zero, List.set_cons_succ])
                  (refine kF.takeL (i := 11) (v := ?_) rfl (by kernel_rfl) (fun _ _ _ h => h) (Or.inl ⟨by rfl, ?_⟩) ?_
                   rotate_left
                   · (intro wS hSw; (try dsimp only at hSw); have hcS := fun b o (h : b < wk.heap.size) => hSw.cell (p := ⟨b, o, none⟩) h; go_simp; (try with_reducible rfl))
                   try simp only [Act.put, List.setIfInBounds_toArray, List.set_cons_zero, List.set_cons_succ])
                  (refine kF.takeL (i := 12) (v := ?_) rfl (by kernel_rfl) (fun _ _ _ h => h) (Or.inl ⟨by rfl, ?_⟩) ?_
                   rotate_left
                   · (intro wS hSw; (try dsimp only at hSw); have hcS := fun b o (h : b < wk.heap.size) => hSw.cell (p := ⟨b, o, none⟩) h; go_simp; (try with_reducible rfl))
                   try simp only [Act.put, List.setIfInBounds_toArray, List.set_cons_zero, List.set_cons_succ])
                  (refine kF.takeL (i := 13) (v := ?_) rfl (by kernel_rfl) (fun _ _ _ h => h) (Or.inl ⟨by rfl, ?_⟩) ?_
                   rotate_left
                   · (intro wS hSw; (try dsimp only at hSw); have hcS := fun b o (h : b < wk.heap.size) => hSw.cell (p := ⟨b, o, none⟩) h; go_simp; (try with_reducible rfl))
                   try simp only [Act.put, List.setIfInBounds_toArray, List.set_cons_zero, List.set_cons_succ])
                  refine kF.done (by kernel_rfl) ?_
                  --endR27b
                  go_wp2_with fail
                  go_roundw
                  case rel => exact ⟨j + 1, true, by omega, by go_num, rfl, hv, (by repeat (first | exact Below.refl _ _ | assumption | refine Below.drew ?_ | refine below_drewN ?_ _ | refine Below.alloc ?_ (by first | omega | (simp; try omega)) _ | refine Below.setCell ?_ (by first | omega | (simp; try omega)) _ | (refine Below.trans ?_ (Below.mono (by assumption) (by first | omega | (simp; try omega))))))⟩
                  case measure => simp [intOf]; omega
                · have h9 := str_ne he
                  have hv : Hid (false = decide (xc ∈ D.take (j + 1))) := by unfold Hid; rw [hkn.out]; simp [Ne.symm he]
                  replace he := Lib.hid he
                  --R27c
                  refine region_krip (fun W : World => Below wk.heap.size wk W) (by kernel_rfl) ((Below.refl _ _).drew) ?_
                  (refine kF.takeL (i := 0) (v := ?_) rfl (by kernel_rfl) (fun _ _ _ h => h) (Or.inl ⟨by rfl, ?_⟩) ?_
                   rotate_left
                   · (intro wS hSw; (try dsimp only at hSw); have hcS := fun b o (h : b < wk.heap.size) => hSw.cell (p := ⟨b, o, none⟩) h; go_simp; (try with_reducible rfl))
                   try simp only [Act.put, List.setIfInBounds_toArray, List.set_cons_zero, List.set_cons_succ])
                  (refine kF.takeL (i := 1) (v := ?_) rfl (by kernel_rfl) (fun _ _ _ h => h) (Or.inl ⟨by rfl, ?_⟩) ?_
                   rotate_left
                   · (intro wS hSw; (try dsimp only at hSw); have hcS := fun b o (h : b < wk.heap.size) => hSw.cell (p := ⟨b, o, none⟩) h; go_simp; (try with_reducible rfl))
                   try simp only [Act.put, List.setIfInBounds_toArray, List.set_cons_zero, List.set_cons_succ])
                  (refine kF.takeL (i := 2) (v := ?_) rfl (by kernel_rfl) (fun _ _ _ h => h) (Or.inl ⟨by rfl, ?_⟩) ?_
                   rotate_left
                   · (intro wS hSw; (try dsimp only at hSw); have hcS := fun b o (h : b < wk.heap.size) => hSw.cell (p := ⟨b, o, none⟩) h; go_simp; (try with_reducible rfl))
                   try simp only [Act.put, List.setIfInBounds_toArray, List.set_cons_zero, List.set_cons_succ])
                  (refine kF.takeL (i := 3) (v := ?_) rfl (by kernel_rfl) (fun _ _ _ h => h) (Or.inl ⟨by rfl, ?_⟩) ?_
                   rotate_left
                   · (intro wS hSw; (try dsimp only at hSw); have hcS := fun b o (h : b < wk.heap.size) => hSw.cell (p := ⟨b, o, none⟩) h; go_simp; (try with_reducible rfl))
                   try simp only [Act.put, List.setIfInBounds_toArray, List.set_cons_zero, List.set_cons_succ])
                  (refine kF.takeL (i := 4) (v := ?_) rfl (by kernel_rfl) (fun _ _ _ h => h) (Or.inl ⟨by rfl, ?_⟩) ?_
                   rotate_left
                   · (intro wS hSw; (try dsimp only at hSw); have hcS := fun b o (h : b < wk.heap.size) => hSw.cell (p := ⟨b, o, none⟩) h; go_simp; (try with_reducible rfl))
                   try simp only [Act.put, List.setIfInBounds_toArray, List.set_cons_zero, List.set_cons_succ])
                  (refine kF.takeL (i := 5) (v := ?_) rfl (by kernel_rfl) (fun _ _ _ h => h) (Or.inl ⟨by rfl, ?_⟩) ?_
                   rotate_left
                   · (intro wS hSw; (try dsimp only at hSw); have hcS := fun b o (h : b < wk.heap.size) => hSw.cell (p := ⟨b, o, none⟩) h; go_simp; (try with_reducible rfl))
                   try simp only [Act.put, List.setIfInBounds_toArray, List.set_cons_zero, List.set_cons_succ])
                  (refine kF.takeL (i := 6) (v := ?_) rfl (by kernel_rfl) (fun _ _ _ h => h) (Or.inl ⟨by rfl, ?_⟩) ?_
                   rotate_left
                   · (intro wS hSw; (try dsimp only at hSw); have hcS := fun b o (h : b < wk.heap.size) => hSw.cell (p := ⟨b, o, none⟩) h; go_simp; (try with_reducible rfl))
                   try simp only [Act.put, List.setIfInBounds_toArray, List.set_cons_zero, List.set_cons_succ])
                  (refine kF.takeL (i := 7) (v := ?_) rfl (by kernel_rfl) (fun _ _ _ h => h) (Or.inl ⟨by rfl, ?_⟩) ?_
                   rotate_left
                   · (intro wS hSw; (try dsimp only at hSw); have hcS := fun b o (h : b < wk.heap.size) => hSw.cell (p := ⟨b, o, none⟩) h; go_simp; (try with_reducible rfl))
                   try simp only [Act.put, List.setIfInBounds_toArray, List.set_cons_zero, List.set_cons_succ])
                  (refine kF.takeL (i := 8) (v := ?_) rfl (by kernel_rfl) (fun _ _ _ h => h) (Or.inl ⟨by rfl, ?_⟩) ?_
                   rotate_left
                   · (intro wS hSw; (try dsimp only at hSw); have hcS := fun b o (h : b < wk.heap.size) => hSw.cell (p := ⟨b, o, none⟩) h; go_simp; (try with_reducible rfl))
                   try simp only [Act.put, List.setIfInBounds_toArray, List.set_cons_zero, List.set_cons_succ])
                  (refine kF.takeL (i := 9) (v := ?_) rfl (by kernel_rfl) (fun _ _ _ h => h) (Or.inl ⟨by rfl, ?_⟩) ?_
                   rotate_left
                   · (intro wS hSw; (try dsimp only at hSw); have hcS := fun b o (h : b < wk.heap.size) => hSw.cell (p := ⟨b, o, none⟩) h; go_simp; (try with_reducible rfl))
                   try simp only [Act.put, List.setIfInBounds_toArray, List.set_cons_zero, List.set_cons_succ])
                  (refine kF.takeL (i := 10) (v := ?_) rfl (by kernel_rfl) (fun _ _ _ h => h) (Or.inl ⟨by rfl, ?_⟩) ?_
                   rotate_left
                   · (intro wS hSw; (try dsimp only at hSw); have hcS := fun b o (h : b < wk.heap.size) => hSw.cell (p := ⟨b, o, none⟩) h; go_simp; (try with_reducible rfl))
                   try simp only [Act.put, List.setIfInBounds_toArray, List.set_cons_zero, List.set_cons_succ])
                  (refine kF.takeL (i := 11) (v := ?_) rfl (by kernel_rfl) (fun _ _ _ h => h) (Or.inl ⟨by rfl, ?_⟩) ?_
                   rotate_left
                   · (intro wS hSw; (try dsimp only at hSw); have hcS := fun b o (h : b < wk.heap.size) => hSw.cell (p := ⟨b, o, none⟩) h; go_simp; (try with_reducible rfl))
                   try simp only [Act.put, List.setIfInBounds_toArray, List.set_cons_zero, List.set_cons_succ])
                  (refine kF.takeL (i := 12) (v := ?_) rfl (by kernel_rfl) (fun _ _ _ h => h) (Or.inl ⟨by rfl, ?_⟩) ?_
                   rotate_left
                   · (intro wS hSw; (try dsimp only at hSw); have hcS := fun b o (h : b < wk.heap.size) => hSw.cell (p := ⟨b, o, none⟩) h; go_simp; (try with_reducible rfl))
                   try simp only [Act.put, List.setIfInBounds_toArray, List.set_cons_zero, List.set_cons_succ])
                  (refine kF.takeL (i := 13) (v := ?_) rfl (by kernel_rfl) (fun _ _ _ h => h) (Or.inl ⟨by rfl, ?_⟩) ?_
                   rotate_left
                   · (intro wS hSw; (try dsimp only at hSw); have hcS := fun b o (h : b < wk.heap.size) => hSw.cell (p := ⟨b, o, none⟩) h; go_simp; (try with_reducible rfl))
                   try simp only [Act.put, List.setIfInBounds_toArray, List.set_cons_zero, List.set_cons_succ])
                  refine kF.done (by kernel_rfl) ?_
                  --endR27c
                  go_wp2_with fail
                  go_roundw
                  case rel => exact ⟨j + 1, false, by omega, by go_num, rfl, hv, (by repeat (first | exact Below.refl _ _ | assumption | refine Below.drew ?_ | refine below_drewN ?_ _ | refine Below.alloc ?_ (by first | omega | (simp; try omega)) _ | refine Below.setCell ?_ (by first | omega | (simp; try omega)) _ | (refine Below.trans ?_ (Below.mono (by assumption) (by first | omega | (simp; try omega))))))⟩
                  case measure => simp [intOf]; omega
              · have hv : Hid (true = decide (xc ∈ D.take (j + 1))) := by unfold Hid; rw [hkn.out]; simp
                --R27a
                refine region_krip (fun W : World => Below wk.heap.size wk W) (by kernel_rfl) ((Below.refl _ _).drew) ?_
                (refine kF.takeL (i := 0) (v := ?_) rfl (by kernel_rfl) (fun _ _ _ h => h) (Or.inl ⟨by rfl, ?_⟩) ?_
                 rotate_left
                 · (intro wS hSw; (try dsimp only at hSw); have hcS := fun b o (h : b < wk.heap.size) => hSw.cell (p := ⟨b, o, none⟩) h; go_simp; (try with_reducible rfl))
                 try simp only [Act.put, List.setIfInBounds_toArray, List.set_cons_zero, List.set_cons_succ])
                (refine kF.takeL (i := 1) (v := ?_) rfl (by kernel_rfl) (fun _ _ _ h => h) (Or.inl ⟨by rfl, ?_⟩) ?_
                 rotate_left
                 · (intro wS hSw; (try dsimp only at hSw); have hcS := fun b o (h : b < wk.heap.size) => hSw.cell (p := ⟨b, o, none⟩) h; go_simp; (try with_reducible rfl))
                 try simp only [Act.put, List.setIfInBounds_toArray, List.set_cons_zero, List.set_cons_succ])
                (refine kF.takeL (i := 2) (v := undef) rfl (by kernel_rfl) (fun _ _ _ h => h) (Or.inr ⟨by rfl, rfl⟩) ?_
                 try simp only [Act.put, List.setIfInBounds_toArray, List.set_cons_zero, List.set_cons_succ])
                (refine kF.takeL (i := 3) (v := undef) rfl (by kernel_rfl) (fun _ _ _ h => h) (Or.inr ⟨by rfl, rfl⟩) ?_
                 try simp only [Act.put, List.setIfInBounds_toArray, List.set_cons_zero, List.set_cons_succ])
                (refine kF.takeL (i := 4) (v := undef) rfl (by kernel_rfl) (fun _ _ _ h => h) (Or.inr ⟨by rfl, rfl⟩) ?_
                 try simp only [Act.put, List.setIfInBounds_toArray, List.set_cons_zero, List.set_cons_succ])
                (refine kF.takeL (i := 5) (v := undef) rfl (by kernel_rfl) (fun _ _ _ h => h) (Or.inr ⟨by rfl, rfl⟩) ?_
                 try simp only [Act.put, List.setIfInBounds_toArray, List.set_cons_zero, List.set_cons_succ])
                (refine kF.takeL (i := 6) (v := undef) rfl (by kernel_rfl) (fun _ _ _ h => h) (Or.inr ⟨by rfl, rfl⟩) ?_
                 try simp only [Act.put, List.setIfInBounds_toArray, List.set_cons_zero, List.set_cons_succ])
                (refine kF.takeL (i := 7) (v := undef) rfl (by kernel_rfl) (fun _ _ _ h => h) (Or.inr ⟨by rfl, rfl⟩) ?_
                 try simp only [Act.put, List.setIfInBounds_toArray, List.set_cons_zero, List.set_cons_succ])
                (refine kF.takeL (i := 8) (v := undef) rfl (by kernel_rfl) (fun _ _ _ h => h) (Or.inr ⟨by rfl, rfl⟩) ?_
                 try simp only [Act.put, List.setIfInBounds_toArray, List.set_cons_zero, List.set_cons_succ])
                (refine kF.takeL (i := 9) (v := undef) rfl (by kernel_rfl) (fun _ _ _ h => h) (Or.inr ⟨by rfl, rfl⟩) ?_
                 try simp only [Act.put, List.setIfInBounds_toArray, List.set_cons_zero, List.set_cons_succ])
                (refine kF.takeL (i := 10) (v := undef) rfl (by kernel_rfl) (fun _ _ _ h => h) (Or.inr ⟨by rfl, rfl⟩) ?_
                 try simp only [Act.put, List.setIfInBounds_toArray, List.set_cons_zero, List.set_cons_succ])
                (refine kF.takeL (i := 11) (v := undef) rfl (by kernel_rfl) (fun _ _ _ h => h) (Or.inr ⟨by rfl, rfl⟩) ?_
                 try simp only [Act.put, List.setIfInBounds_toArray, List.set_cons_zero, List.set_cons_succ])
                (refine kF.takeL (i := 12) (v := ?_) rfl (by kernel_rfl) (fun _ _ _ h => h) (Or.inl ⟨by rfl, ?_⟩) ?_
                 rotate_left
                 · (intro wS hSw; (try dsimp only at hSw); have hcS := fun b o (h : b < wk.heap.size) => hSw.cell (p := ⟨b, o, none⟩) h; go_simp; (try with_reducible rfl))
                 try simp only [Act.put, List.setIfInBounds_toArray, List.set_cons_zero, List.set_cons_succ])
                (refine kF.takeL (i := 13) (v := ?_) rfl (by kernel_rfl) (fun _ _ _ h => h) (Or.inl ⟨by rfl, ?_⟩) ?_
                 rotate_left
                 · (intro wS hSw; (try dsimp only at hSw); have hcS := fun b o (h : b < wk.heap.size) => hSw.cell (p := ⟨b, o, none⟩) h; go_simp; (try with_reducible rfl))
                 try simp only [Act.put, List.setIfInBounds_toArray, List.set_cons_zero, List.set_cons_succ])
                refine kF.done (by kernel_rfl) ?_
                --endR27a
                go_wp2_with fail
                go_roundw
                case rel => exact ⟨j + 1, true, by omega, by go_num, rfl, hv, (by repeat (first | exact Below.refl _ _ | assumption | refine Below.drew ?_ | refine below_drewN ?_ _ | refine Below.alloc ?_ (by first | omega | (simp; try omega)) _ | refine Below.setCell ?_ (by first | omega | (simp; try omega)) _ | (refine Below.trans ?_ (Below.mono (by assumption) (by first | omega | (simp; try omega))))))⟩
                case measure => simp [intOf]; omega
            · obtain rfl : j = n4 := by omega
              have htk : D.take j = D := List.take_of_length_le (by have := lD.out; omega)
              rw [htk] at hkg
              replace htk := Lib.hid htk
              have pbk := Lib.hid (pbx.out.below hbyk)
              replace hcW := Lib.hid hcW
              obtain ⟨y0, y1, y2, y3, y4, y5⟩ := (xb9.out.below hch).cells
              have ly9 := xb9.out.lt
              go_upto_region 28 with fail
              --R28
              refine region_krip (fun W : World => Below wj.heap.size wk W ∧ ∃ p, PBox W bu10 p) (by kernel_rfl) (⟨(Below.refl _ _).drew, _, PBox.drew (pbk.out)⟩) ?_
              (refine kF.takeL (i := 0) (v := ?_) rfl (by kernel_rfl) (fun _ _ _ h => h) (Or.inl ⟨by rfl, ?_⟩) ?_
               rotate_left
               · (intro wS hSw; (try dsimp only at hSw); have hcS := fun b o (h : b < wj.heap.size) => hSw.1.cell (p := ⟨b, o, none⟩) h; go_simp; (try with_reducible rfl))
               try simp only [Act.put, List.setIfInBounds_toArray, List.set_cons_zero, List.set_cons_succ])
              (refine kF.takeL (i := 1) (v := ?_) rfl (by kernel_rfl) (fun _ _ _ h => h) (Or.inl ⟨by rfl, ?_⟩) ?_
               rotate_left
               · (intro wS hSw; (try dsimp only at hSw); have hcS := fun b o (h : b < wj.heap.size) => hSw.1.cell (p := ⟨b, o, none⟩) h; go_simp; (try with_reducible rfl))
               try simp only [Act.put, List.setIfInBounds_toArray, List.set_cons_zero, List.set_cons_succ])
              (refine kF.takeL (i := 2) (v := ?_) rfl (by kernel_rfl) (fun _ _ _ h => h) (Or.inl ⟨by rfl, ?_⟩) ?_
               rotate_left
               · (intro wS hSw; (try dsimp only at hSw); have hcS := fun b o (h : b < wj.heap.size) => hSw.1.cell (p := ⟨b, o, none⟩) h; go_simp; (try with_reducible rfl))
               try simp only [Act.put, List.setIfInBounds_toArray, List.set_cons_zero, List.set_cons_succ])
              (refine kF.takeL (i := 3) (v := ?_) rfl (by kernel_rfl) (fun _ _ _ h => h) (Or.inl ⟨by rfl, ?_⟩) ?_
               rotate_left
               · (intro wS hSw; (try dsimp only at hSw); have hcS := fun b o (h : b < wj.heap.size) => hSw.1.cell (p := ⟨b, o, none⟩) h; go_simp; (try with_reducible rfl))
               try simp only [Act.put, List.setIfInBounds_toArray, List.set_cons_zero, List.set_cons_succ])
              (refine kF.takeL (i := 4) (v := ?_) rfl (by kernel_rfl) (fun _ _ _ h => h) (Or.inl ⟨by rfl, ?_⟩) ?_
               rotate_left
               · (intro wS hSw; (try dsimp only at hSw); have hcS := fun b o (h : b < wj.heap.size) => hSw.1.cell (p := ⟨b, o, none⟩) h; go_simp; (try with_reducible rfl))
               try simp only [Act.put, List.setIfInBounds_toArray, List.set_cons_zero, List.set_cons_succ])
              (refine kF.takeL (i := 5) (v := ?_) rfl (by kernel_rfl) (fun _ _ _ h => h) (Or.inl ⟨by rfl, ?_⟩) ?_
               rotate_left
               · (intro wS hSw; (try dsimp only at hSw); have hcS := fun b o (h : b < wj.heap.size) => hSw.1.cell (p := ⟨b, o, none⟩) h; go_simp; (try with_reducible rfl))
               try simp only [Act.put, List.setIfInBounds_toArray, List.set_cons_zero, List.set_cons_succ])
              (refine kF.lastL (j := 6) rfl (by kernel_rfl) (fun _ _ _ _ _ h => h) (fun _ _ h1 h2 => ⟨below_S (hch.size) h1.1 h2, h1.2.imp fun _ h => h.below h2⟩) (fun hSk K hK => ?_)
               (go_simp; refine (hF2.out _ (stb.out.to (hch.trans hSk.1))).mono ?_; rintro e w8 ⟨rfl, hb8w⟩)
               refine hK.out _ _ (⟨hSk.1.trans (hb8w.mono (Nat.le_trans hch.size hSk.1.size)), hSk.2.imp fun _ h => h.below hb8w⟩) ?_
               clear hK K
               try simp only [Act.put, List.setIfInBounds_toArray, List.set_cons_zero, List.set_cons_succ])
              (refine kF.takeL (i := 7) (v := ?_) rfl (by kernel_rfl) (fun _ _ _ h => h) (Or.inl ⟨by rfl, ?_⟩) ?_
               rotate_left
               · (intro wS hSw; (try dsimp only at hSw); have hcS := fun b o (h : b < wj.heap.size) => hSw.1.cell (p := ⟨b, o, none⟩) h; go_simp; (try with_reducible rfl))
               try simp only [Act.put, List.setIfInBounds_toArray, List.set_cons_zero, List.set_cons_succ])
              (refine kF.takeL (i := 8) (v := ?_) rfl (by kernel_rfl) (fun _ _ _ h => h) (Or.inl ⟨by rfl, ?_⟩) ?_
               rotate_left
               · (intro wS hSw; (try dsimp only at hSw); have hcS := fun b o (h : b < wj.heap.size) => hSw.1.cell (p := ⟨b, o, none⟩) h; go_simp; (try with_reducible rfl))
               try simp only [Act.put, List.setIfInBounds_toArray, List.set_cons_zero, List.set_cons_succ])
              (refine kF.takeL (i := 9) (v := ?_) rfl (by kernel_rfl) (fun _ _ _ h => h) (Or.inl ⟨by rfl, ?_⟩) ?_
               rotate_left
               · (intro wS hSw; (try dsimp only at hSw); have hcS := fun b o (h : b < wj.heap.size) => hSw.1.cell (p := ⟨b, o, none⟩) h; go_simp; (try with_reducible rfl))
               try simp only [Act.put, List.setIfInBounds_toArray, List.set_cons_zero, List.set_cons_succ])
              (refine kF.lastL (j := 10) rfl (by kernel_rfl) (fun _ _ _ _ _ h => h) (fun _ _ h1 h2 => ⟨below_S (hch.size) h1.1 h2, h1.2.imp fun _ h => h.below h2⟩) (fun hSk K hK => ?_)
               (obtain ⟨hS1, p9, hp9⟩ := hSk; obtain ⟨c0, c1, c2⟩ := PBox.cells hp9; have c3 := PBox.frozen hp9 0; have c4 := PBox.frozen hp9 1; have c5 := PBox.frozen hp9 2; go_simp)
               refine hK.out _ _ (⟨((hS1.setCell (p := ⟨bu10, 0, none⟩) hBy _).setCell (p := ⟨bu10, 1, none⟩) hBy _).setCell (p := ⟨bu10, 2, none⟩) hBy _, gp, PBox.set3 hp9 gp⟩) ?_
               clear hK K
               try simp only [Act.put, List.setIfInBounds_toArray, List.set_cons_zero, List.set_cons_succ])
              (refine kF.takeL (i := 11) (v := ?_) rfl (by kernel_rfl) (fun _ _ _ h => h) (Or.inl ⟨by rfl, ?_⟩) ?_
               rotate_left
               · (intro wS hSw; (try dsimp only at hSw); have hcS := fun b o (h : b < wj.heap.size) => hSw.1.cell (p := ⟨b, o, none⟩) h; go_simp; (try with_reducible rfl))
               try simp only [Act.put, List.setIfInBounds_toArray, List.set_cons_zero, List.set_cons_succ])
              refine kF.done (by kernel_rfl) ?_
              have hSx : Below wj.heap.size wk (((w8.setCell ⟨bu10, 0, none⟩ (.string gp.pack)).setCell ⟨bu10, 1, none⟩ (.int .i64 gp.at_)).setCell ⟨bu10, 2, none⟩ (.int .i64 gp.len)) := ((hS1.setCell (p := ⟨bu10, 0, none⟩) hBy _).setCell (p := ⟨bu10, 1, none⟩) hBy _).setCell (p := ⟨bu10, 2, none⟩) hBy _
              have pbz : Hid (PBox (((w8.setCell ⟨bu10, 0, none⟩ (.string gp.pack)).setCell ⟨bu10, 1, none⟩ (.int .i64 gp.at_)).setCell ⟨bu10, 2, none⟩ (.int .i64 gp.len)) bu10 gp) := PBox.set3 hp9 gp
              generalize ((w8.setCell ⟨bu10, 0, none⟩ (.string gp.pack)).setCell ⟨bu10, 1, none⟩ (.int .i64 gp.at_)).setCell ⟨bu10, 2, none⟩ (.int .i64 gp.len) = wx at hSx pbz ⊢
              clear c0 c1 c2 c3 c4 c5 hp9 hS1 hb8w
              --endR28
              have hcx : Below wj.heap.size wj wx := hch.trans hSx
              clear x0 x1 x2 x3 x4 x5 y0 y1 y2 y3 y4 y5 y8 ly9 hcW
              obtain ⟨x0, x1, x2, x3, x4, x5⟩ := (bs.out.below hcx).cells
              have lxx := (bs.out.below hcx).lt
              obtain ⟨z0, z1', z2'⟩ := pbz.out.cells
              have lz := pbz.out.lt
              have hpW := hpV.out.to hcx
              obtain ⟨p0, p1, p2⟩ := hpW.placeAt hxp.out
              have hb9x : b9 < wx.heap.size := by obtain ⟨b', o', e, hb', _⟩ := hpW.2.2 (by omega); simp only [Option.some.injEq, Addr.mk.injEq] at e; omega
              replace hpW := Lib.hid hpW
              go_upto_region 29 with fail
              go_cut [201] (fun v201 wc => v201 = .bool false ∧ Below wx.heap.size wx wc)
              case first =>
                as_aux_lemma =>
                by_cases hz2 : z2 = 0
                · have g : (z2 == 0) = true := by simpa using hz2
                  obtain ⟨hin1, hin2⟩ := hfb0.out hz2
                  replace hz2 := Lib.hid hz2
                  by_cases hin : xc ∈ D
                  · obtain rfl : kg = true := by rw [hkg.out]; simpa using hin
                    have g5 := hin1 hin
                    have g2 : (gz == 0) = false := by rw [g5]; rfl
                    replace hin := Lib.hid hin
                    replace hin1 := Lib.hid hin1
                    replace hin2 := Lib.hid hin2
                    replace g5 := Lib.hid g5
                    --R29b
                    refine region_krip (fun W : World => Below wx.heap.size wx W) (by kernel_rfl) ((Below.refl _ _).drew) ?_
                    (refine kF.takeL (i := 0) (v := ?_) rfl (by kernel_rfl) (fun _ _ _ h => h) (Or.inl ⟨by rfl, ?_⟩) ?_
                     rotate_left
                     · (intro wS hSw; (try dsimp only at hSw); have hcS := fun b o (h : b < wx.heap.size) => hSw.cell (p := ⟨b, o, none⟩) h; go_simp; (try with_reducible rfl))
                     try simp only [Act.put, List.setIfInBounds_toArray, List.set_cons_zero, List.set_cons_succ])
                    (refine kF.takeL (i := 1) (v := ?_) rfl (by kernel_rfl) (fun _ _ _ h => h) (Or.inl ⟨by rfl, ?_⟩) ?_
                     rotate_left
                     · (intro wS hSw; (try dsimp only at hSw); have hcS := fun b o (h : b < wx.heap.size) => hSw.cell (p := ⟨b, o, none⟩) h; go_simp; (try with_reducible rfl))
                     try simp only [Act.put, List.setIfInBounds_toArray, List.set_cons_zero, List.set_cons_succ])
                    (refine kF.takeL (i := 2) (v := ?_) rfl (by kernel_rfl) (fun _ _ _ h => h) (Or.inl ⟨by rfl, ?_⟩) ?_
                     rotate_left
                     · (intro wS hSw; (try dsimp only at hSw); have hcS := fun b o (h : b < wx.heap.size) => hSw.cell (p := ⟨b, o, none⟩) h; go_simp; (try with_reducible rfl))
                     try simp only [Act.put, List.setIfInBounds_toArray, List.set_cons_zero, List.set_cons_succ])
                    (refine kF.takeL (i := 3) (v := ?_) rfl (by kernel_rfl) (fun _ _ _ h => h) (Or.inl ⟨by rfl, ?_⟩) ?_
                     rotate_left
                     · (intro wS hSw; (try dsimp only at hSw); have hcS := fun b o (h : b < wx.heap.size) => hSw.cell (p := ⟨b, o, none⟩) h; go_simp; (try with_reducible rfl))
                     try simp only [Act.put, List.setIfInBounds_toArray, List.set_cons_zero, List.set_cons_succ])
                    (refine kF.takeL (i := 4) (v := ?_) rfl (by kernel_rfl) (fun _ _ _ h => h) (Or.inl ⟨by rfl, ?_⟩) ?_
                     rotate_left
                     · (intro wS hSw; (try dsimp only at hSw); have hcS := fun b o (h : b < wx.heap.size) => hSw.cell (p := ⟨b, o, none⟩) h; go_simp; (try with_reducible rfl))
                     try simp only [Act.put, List.setIfInBounds_toArray, List.set_cons_zero, List.set_cons_succ])
                    (refine kF.takeL (i := 5) (v := ?_) rfl (by kernel_rfl) (fun _ _ _ h => h) (Or.inl ⟨by rfl, ?_⟩) ?_
                     rotate_left
                     · (intro wS hSw; (try dsimp only at hSw); have hcS := fun b o (h : b < wx.heap.size) => hSw.cell (p := ⟨b, o, none⟩) h; go_simp; (try with_reducible rfl))
                     try simp only [Act.put, List.setIfInBounds_toArray, List.set_cons_zero, List.set_cons_succ])
                    (refine kF.takeL (i := 6) (v := ?_) rfl (by kernel_rfl) (fun _ _ _ h => h) (Or.inl ⟨by rfl, ?_⟩) ?_
                     rotate_left
                     · (intro wS hSw; (try dsimp only at hSw); have hcS := fun b o (h : b < wx.heap.size) => hSw.cell (p := ⟨b, o, none⟩) h; go_simp; (try with_reducible rfl))
                     try simp only [Act.put, List.setIfInBounds_toArray, List.set_cons_zero, List.set_cons_succ])
                    (refine kF.takeL (i := 7) (v := ?_) rfl (by kernel_rfl) (fun _ _ _ h => h) (Or.inl ⟨by rfl, ?_⟩) ?_
                     rotate_left
                     · (intro wS hSw; (try dsimp only at hSw); have hcS := fun b o (h : b < wx.heap.size) => hSw.cell (p := ⟨b, o, none⟩) h; go_simp; (try with_reducible rfl))
                     try simp only [Act.put, List.setIfInBounds_toArray, List.set_cons_zero, List.set_cons_succ])
                    (refine kF.takeL (i := 8) (v := ?_) rfl (by kernel_rfl) (fun _ _ _ h => h) (Or.inl ⟨by rfl, ?_⟩) ?_
                     rotate_left
                     · (intro wS hSw; (try dsimp only at hSw); have hcS := fun b o (h : b < wx.heap.size) => hSw.cell (p := ⟨b, o, none⟩) h; go_simp; (try with_reducible rfl))
                     try simp only [Act.put, List.setIfInBounds_toArray, List.set_cons_zero, List.set_cons_succ])
                    (refine kF.takeL (i := 9) (v := ?_) rfl (by kernel_rfl) (fun _ _ _ h => h) (Or.inl ⟨by rfl, ?_⟩) ?_
                     rotate_left
                     · (intro wS hSw; (try dsimp only at hSw); have hcS := fun b o (h : b < wx.heap.size) => hSw.cell (p := ⟨b, o, none⟩) h; go_simp; (try with_reducible rfl))
                     try simp only [Act.put, List.setIfInBounds_toArray, List.set_cons_zero, List.set_cons_succ])
                    (refine kF.takeL (i := 10) (v := ?_) rfl (by kernel_rfl) (fun _ _ _ h => h) (Or.inl ⟨by rfl, ?_⟩) ?_
                     rotate_left
                     · (intro wS hSw; (try dsimp only at hSw); have hcS := fun b o (h : b < wx.heap.size) => hSw.cell (p := ⟨b, o, none⟩) h; go_simp; (try with_reducible rfl))
                     try simp only [Act.put, List.setIfInBounds_toArray, List.set_cons_zero, List.set_cons_succ])
                    (refine kF.takeL (i := 11) (v := undef) rfl (by kernel_rfl) (fun _ _ _ h => h) (Or.inr ⟨by rfl, rfl⟩) ?_
                     try simp only [Act.put, List.setIfInBounds_toArray, List.set_cons_zero, List.set_cons_succ])
                    (refine kF.takeL (i := 12) (v := undef) rfl (by kernel_rfl) (fun _ _ _ h => h) (Or.inr ⟨by rfl, rfl⟩) ?_
                     try simp only [Act.put, List.setIfInBounds_toArray, List.set_cons_zero, List.set_cons_succ])
                    (refine kF.takeL (i := 13) (v := undef) rfl (by kernel_rfl) (fun _ _ _ h => h) (Or.inr ⟨by rfl, rfl⟩) ?_
                     try simp only [Act.put, List.setIfInBounds_toArray, List.set_cons_zero, List.set_cons_succ])
                    (refine kF.takeL (i := 14) (v := undef) rfl (by kernel_rfl) (fun _ _ _ h => h) (Or.inr ⟨by rfl, rfl⟩) ?_
                     try simp only [Act.put, List.setIfInBounds_toArray, List.set_cons_zero, List.set_cons_succ])
                    (refine kF.takeL (i := 15) (v := undef) rfl (by kernel_rfl) (fun _ _ _ h => h) (Or.inr ⟨by rfl, rfl⟩) ?_
                     try simp only [Act.put, List.setIfInBounds_toArray, List.set_cons_zero, List.set_cons_succ])
                    (refine kF.takeL (i := 16) (v := undef) rfl (by kernel_rfl) (fun _ _ _ h => h) (Or.inr ⟨by rfl, rfl⟩) ?_
                     try simp only [Act.put, List.setIfInBounds_toArray, List.set_cons_zero, List.set_cons_succ])
                    (refine kF.takeL (i := 17) (v := undef) rfl (by kernel_rfl) (fun _ _ _ h => h) (Or.inr ⟨by rfl, rfl⟩) ?_
                     try simp only [Act.put, List.setIfInBounds_toArray, List.set_cons_zero, List.set_cons_succ])
                    (refine kF.takeL (i := 18) (v := ?_) rfl (by kernel_rfl) (fun _ _ _ h => h) (Or.inl ⟨by rfl, ?_⟩) ?_
                     rotate_left
                     · (intro wS hSw; (try dsimp only at hSw); have hcS := fun b o (h : b < wx.heap.size) => hSw.cell (p := ⟨b, o, none⟩) h; go_simp; (try with_reducible rfl))
                     try simp only [Act.put, List.setIfInBounds_toArray, List.set_cons_zero, List.set_cons_succ])
                    (refine kF.takeL (i := 19) (v := ?_) rfl (by kernel_rfl) (fun _ _ _ h => h) (Or.inl ⟨by rfl, ?_⟩) ?_
                     rotate_left
                     · (intro wS hSw; (try dsimp only at hSw); have hcS := fun b o (h : b < wx.heap.size) => hSw.cell (p := ⟨b, o, none⟩) h; go_simp; (try with_reducible rfl))
                     try simp only [Act.put, List.setIfInBounds_toArray, List.set_cons_zero, List.set_cons_succ])
                    (refine kF.takeL (i := 20) (v := ?_) rfl (by kernel_rfl) (fun _ _ _ h => h) (Or.inl ⟨by rfl, ?_⟩) ?_
                     rotate_left
                     · (intro wS hSw; (try dsimp only at hSw); have hcS := fun b o (h : b < wx.heap.size) => hSw.cell (p := ⟨b, o, none⟩) h; go_simp; (try with_reducible rfl))
                     try simp only [Act.put, List.setIfInBounds_toArray, List.set_cons_zero, List.set_cons_succ])
                    refine kF.done (by kernel_rfl) ?_
                    --endR29b
                    go_wp2_with fail
                    go_meet
                    exact ⟨rfl, (by repeat (first | exact Below.refl _ _ | assumption | refine Below.drew ?_ | refine below_drewN ?_ _ | refine Below.alloc ?_ (by first | omega | (simp; try omega)) _ | refine Below.setCell ?_ (by first | omega | (simp; try omega)) _ | (refine Below.trans ?_ (Below.mono (by assumption) (by first | omega | (simp; try omega))))))⟩
                  · obtain rfl : kg = false := by rw [hkg.out]; simpa using hin
                    obtain ⟨hf1, hf2⟩ := hin2 hin
                    have g2 : (gz == 0) = true := by rw [hf2]; rfl
                    have ne1 : ∀ w : World, (binOp .neq 34 (.agg #[.string gp.pack, .int .i64 gp.at_, .int .i64 gp.len]) (.agg #[.string xp.pack, .int .i64 xp.at_, .int .i64 xp.len])).run Try.prog w = .ok (.bool false) w := by
                      intro w
                      rw [hf1]
                      exact neqSelf xp w
                    replace hin := Lib.hid hin
                    replace hin1 := Lib.hid hin1
                    replace hin2 := Lib.hid hin2
                    replace hf1 := Lib.hid hf1
                    replace hf2 := Lib.hid hf2
                    --R29c
                    refine region_krip (fun W : World => Below wx.heap.size wx W) (by kernel_rfl) ((Below.refl _ _).drew) ?_
                    (refine kF.takeL (i := 0) (v := ?_) rfl (by kernel_rfl) (fun _ _ _ h => h) (Or.inl ⟨by rfl, ?_⟩) ?_
                     rotate_left
                     · (intro wS hSw; (try dsimp only at hSw); have hcS := fun b o (h : b < wx.heap.size) => hSw.cell (p := ⟨b, o, none⟩) h; go_simp; (try with_reducible rfl))
                     try simp only [Act.put, List.setIfInBounds_toArray, List.set_cons_zero, List.set_cons_succ])
                    (refine kF.takeL (i := 1) (v := ?_) rfl (by kernel_rfl) (fun _ _ _ h => h) (Or.inl ⟨by rfl, ?_⟩) ?_
                     rotate_left
                     · (intro wS hSw; (try dsimp only at hSw); have hcS := fun b o (h : b < wx.heap.size) => hSw.cell (p := ⟨b, o, none⟩) h; go_simp; (try with_reducible rfl))
                     try simp only [Act.put, List.setIfInBounds_toArray, List.set_cons_zero, List.set_cons_succ])
                    (refine kF.takeL (i := 2) (v := ?_) rfl (by kernel_rfl) (fun _ _ _ h => h) (Or.inl ⟨by rfl, ?_⟩) ?_
                     rotate_left
                     · (intro wS hSw; (try dsimp only at hSw); have hcS := fun b o (h : b < wx.heap.size) => hSw.cell (p := ⟨b, o, none⟩) h; go_simp; (try with_reducible rfl))
                     try simp only [Act.put, List.setIfInBounds_toArray, List.set_cons_zero, List.set_cons_succ])
                    (refine kF.takeL (i := 3) (v := ?_) rfl (by kernel_rfl) (fun _ _ _ h => h) (Or.inl ⟨by rfl, ?_⟩) ?_
                     rotate_left
                     · (intro wS hSw; (try dsimp only at hSw); have hcS := fun b o (h : b < wx.heap.size) => hSw.cell (p := ⟨b, o, none⟩) h; go_simp; (try with_reducible rfl))
                     try simp only [Act.put, List.setIfInBounds_toArray, List.set_cons_zero, List.set_cons_succ])
                    (refine kF.takeL (i := 4) (v := ?_) rfl (by kernel_rfl) (fun _ _ _ h => h) (Or.inl ⟨by rfl, ?_⟩) ?_
                     rotate_left
                     · (intro wS hSw; (try dsimp only at hSw); have hcS := fun b o (h : b < wx.heap.size) => hSw.cell (p := ⟨b, o, none⟩) h; go_simp; (try with_reducible rfl))
                     try simp only [Act.put, List.setIfInBounds_toArray, List.set_cons_zero, List.set_cons_succ])
                    (refine kF.takeL (i := 5) (v := ?_) rfl (by kernel_rfl) (fun _ _ _ h => h) (Or.inl ⟨by rfl, ?_⟩) ?_
                     rotate_left
                     · (intro wS hSw; (try dsimp only at hSw); have hcS := fun b o (h : b < wx.heap.size) => hSw.cell (p := ⟨b, o, none⟩) h; go_simp; (try with_reducible rfl))
                     try simp only [Act.put, List.setIfInBounds_toArray, List.set_cons_zero, List.set_cons_succ])
                    (refine kF.takeL (i := 6) (v := ?_) rfl (by kernel_rfl) (fun _ _ _ h => h) (Or.inl ⟨by rfl, ?_⟩) ?_
                     rotate_left
                     · (intro wS hSw; (try dsimp only at hSw); have hcS := fun b o (h : b < wx.heap.size) => hSw.cell (p := ⟨b, o, none⟩) h; go_simp; (try with_reducible rfl))
                     try simp only [Act.put, List.setIfInBounds_toArray, List.set_cons_zero, List.set_cons_succ])
                    (refine kF.takeL (i := 7) (v := ?_) rfl (by kernel_rfl) (fun _ _ _ h => h) (Or.inl ⟨by rfl, ?_⟩) ?_
                     rotate_left
                     · (intro wS hSw; (try dsimp only at hSw); have hcS := fun b o (h : b < wx.heap.size) => hSw.cell (p := ⟨b, o, none⟩) h; go_simp; (try with_reducible rfl))
                     try simp only [Act.put, List.setIfInBounds_toArray, List.set_cons_zero, List.set_cons_succ])
                    (refine kF.takeL (i := 8) (v := ?_) rfl (by kernel_rfl) (fun _ _ _ h => h) (Or.inl ⟨by rfl, ?_⟩) ?_
                     rotate_left
                     · (intro wS hSw; (try dsimp only at hSw); have hcS := fun b o (h : b < wx.heap.size) => hSw.cell (p := ⟨b, o, none⟩) h; go_simp; (try with_reducible rfl))
                     try simp only [Act.put, List.setIfInBounds_toArray, List.set_cons_zero, List.set_cons_succ])
                    (refine kF.takeL (i := 9) (v := ?_) rfl (by kernel_rfl) (fun _ _ _ h => h) (Or.inl ⟨by rfl, ?_⟩) ?_
                     rotate_left
                     · (intro wS hSw; (try dsimp only at hSw); have hcS := fun b o (h : b < wx.heap.size) => hSw.cell (p := ⟨b, o, none⟩) h; go_simp; (try with_reducible rfl))
                     try simp only [Act.put, List.setIfInBounds_toArray, List.set_cons_zero, List.set_cons_succ])
                    (refine kF.takeL (i := 10) (v := ?_) rfl (by kernel_rfl) (fun _ _ _ h => h) (Or.inl ⟨by rfl, ?_⟩) ?_
                     rotate_left
                     · (intro wS hSw; (try dsimp only at hSw); have hcS := fun b o (h : b < wx.heap.size) => hSw.cell (p := ⟨b, o, none⟩) h; go_simp; (try with_reducible rfl))
                     try simp only [Act.put, List.setIfInBounds_toArray, List.set_cons_zero, List.set_cons_succ])
                    (refine kF.takeL (i := 11) (v := ?_) rfl (by kernel_rfl) (fun _ _ _ h => h) (Or.inl ⟨by rfl, ?_⟩) ?_
                     rotate_left
                     · (intro wS hSw; (try dsimp only at hSw); have hcS := fun b o (h : b < wx.heap.size) => hSw.cell (p := ⟨b, o, none⟩) h; go_simp; (try with_reducible rfl))
                     try simp only [Act.put, List.setIfInBounds_toArray, List.set_cons_zero, List.set_cons_succ])
                    (refine kF.takeL (i := 12) (v := ?_) rfl (by kernel_rfl) (fun _ _ _ h => h) (Or.inl ⟨by rfl, ?_⟩) ?_
                     rotate_left
                     · (intro wS hSw; (try dsimp only at hSw); have hcS := fun b o (h : b < wx.heap.size) => hSw.cell (p := ⟨b, o, none⟩) h; go_simp; (try with_reducible rfl))
                     try simp only [Act.put, List.setIfInBounds_toArray, List.set_cons_zero, List.set_cons_succ])
                    (refine kF.takeL (i := 13) (v := ?_) rfl (by kernel_rfl) (fun _ _ _ h => h) (Or.inl ⟨by rfl, ?_⟩) ?_
                     rotate_left
                     · (intro wS hSw; (try dsimp only at hSw); have hcS := fun b o (h : b < wx.heap.size) => hSw.cell (p := ⟨b, o, none⟩) h; go_simp; (try with_reducible rfl))
                     try simp only [Act.put, List.setIfInBounds_toArray, List.set_cons_zero, List.set_cons_succ])
                    (refine kF.takeL (i := 14) (v := ?_) rfl (by kernel_rfl) (fun _ _ _ h => h) (Or.inl ⟨by rfl, ?_⟩) ?_
                     rotate_left
                     · (intro wS hSw; (try dsimp only at hSw); have hcS := fun b o (h : b < wx.heap.size) => hSw.cell (p := ⟨b, o, none⟩) h; go_simp; (try with_reducible rfl))
                     try simp only [Act.put, List.setIfInBounds_toArray, List.set_cons_zero, List.set_cons_succ])
                    (refine kF.takeL (i := 15) (v := ?_) rfl (by kernel_rfl) (fun _ _ _ h => h) (Or.inl ⟨by rfl, ?_⟩) ?_
                     rotate_left
                     · (intro wS hSw; (try dsimp only at hSw); have hcS := fun b o (h : b < wx.heap.size) => hSw.cell (p := ⟨b, o, none⟩) h; go_simp; (try with_reducible rfl))
                     try simp only [Act.put, List.setIfInBounds_toArray, List.set_cons_zero, List.set_cons_succ])
                    (refine kF.takeL (i := 16) (v := ?_) rfl (by kernel_rfl) (fun _ _ _ h => h) (Or.inl ⟨by rfl, ?_⟩) ?_
                     rotate_left
                     · (intro wS hSw; (try dsimp only at hSw); have hcS := fun b o (h : b < wx.heap.size) => hSw.cell (p := ⟨b, o, none⟩) h; go_simp; (try with_reducible rfl))
                     try simp only [Act.put, List.setIfInBounds_toArray, List.set_cons_zero, List.set_cons_succ])
                    (refine kF.takeL (i := 17) (v := ?_) rfl (by kernel_rfl) (fun _ _ _ h => h) (Or.inl ⟨by rfl, ?_⟩) ?_
                     rotate_left
                     · (intro wS hSw; (try dsimp only at hSw); have hcS := fun b o (h : b < wx.heap.size) => hSw.cell (p := ⟨b, o, none⟩) h; go_simp; (try with_reducible rfl))
                     try simp only [Act.put, List.setIfInBounds_toArray, List.set_cons_zero, List.set_cons_succ])
                    (refine kF.takeL (i := 18) (v := ?_) rfl (by kernel_rfl) (fun _ _ _ h => h) (Or.inl ⟨by rfl, ?_⟩) ?_
                     rotate_left
                     · (intro wS hSw; (try dsimp only at hSw); have hcS := fun b o (h : b < wx.heap.size) => hSw.cell (p := ⟨b, o, none⟩) h; go_simp; (try with_reducible rfl))
                     try simp only [Act.put, List.setIfInBounds_toArray, List.set_cons_zero, List.set_cons_succ])
                    (refine kF.takeL (i := 19) (v := ?_) rfl (by kernel_rfl) (fun _ _ _ h => h) (Or.inl ⟨by rfl, ?_⟩) ?_
                     rotate_left
                     · (intro wS hSw; (try dsimp only at hSw); have hcS := fun b o (h : b < wx.heap.size) => hSw.cell (p := ⟨b, o, none⟩) h; go_simp; (try with_reducible rfl))
                     try simp only [Act.put, List.setIfInBounds_toArray, List.set_cons_zero, List.set_cons_succ])
                    (refine kF.takeL (i := 20) (v := ?_) rfl (by kernel_rfl) (fun _ _ _ h => h) (Or.inl ⟨by rfl, ?_⟩) ?_
                     rotate_left
                     · (intro wS hSw; (try dsimp only at hSw); have hcS := fun b o (h : b < wx.heap.size) => hSw.cell (p := ⟨b, o, none⟩) h; go_simp; (try with_reducible rfl))
                     try simp only [Act.put, List.setIfInBounds_toArray, List.set_cons_zero, List.set_cons_succ])
                    refine kF.done (by kernel_rfl) ?_
                    --endR29c
                    go_wp2_with fail
                    go_meet
                    exact ⟨rfl, (by repeat (first | exact Below.refl _ _ | assumption | refine Below.drew ?_ | refine below_drewN ?_ _ | refine Below.alloc ?_ (by first | omega | (simp; try omega)) _ | refine Below.setCell ?_ (by first | omega | (simp; try omega)) _ | (refine Below.trans ?_ (Below.mono (by assumption) (by first | omega | (simp; try omega))))))⟩
                · have g : (z2 == 0) = false := by simpa using hz2
                  replace hz2 := Lib.hid hz2
                  --R29a
                  refine region_krip (fun W : World => Below wx.heap.size wx W) (by kernel_rfl) ((Below.refl _ _).drew) ?_
                  (refine kF.takeL (i := 0) (v := ?_) rfl (by kernel_rfl) (fun _ _ _ h => h) (Or.inl ⟨by rfl, ?_⟩) ?_
                   rotate_left
                   · (intro wS hSw; (try dsimp only at hSw); have hcS := fun b o (h : b < wx.heap.size) => hSw.cell (p := ⟨b, o, none⟩) h; go_simp; (try with_reducible rfl))
                   try simp only [Act.put, List.setIfInBounds_toArray, List.set_cons_zero, List.set_cons_succ])
                  (refine kF.takeL (i := 1) (v := ?_) rfl (by kernel_rfl) (fun _ _ _ h => h) (Or.inl ⟨by rfl, ?_⟩) ?_
                   rotate_left
                   · (intro wS hSw; (try dsimp only at hSw); have hcS := fun b o (h : b < wx.heap.size) => hSw.cell (p := ⟨b, o, none⟩) h; go_simp; (try with_reducible rfl))
                   try simp only [Act.put, List.setIfInBounds_toArray, List.set_cons_zero, List.set_cons_succ])
                  (refine kF.takeL (i := 2) (v := ?_) rfl (by kernel_rfl) (fun _ _ _ h => h) (Or.inl ⟨by rfl, ?_⟩) ?_
                   rotate_left
                   · (intro wS hSw; (try dsimp only at hSw); have hcS := fun b o (h : b < wx.heap.size) => hSw.cell (p := ⟨b, o, none⟩) h; go_simp; (try with_reducible rfl))
                   try simp only [Act.put, List.setIfInBounds_toArray, List.set_cons_zero, List.set_cons_succ])
                  (refine kF.takeL (i := 3) (v := undef) rfl (by kernel_rfl) (fun _ _ _ h => h) (Or.inr ⟨by rfl, rfl⟩) ?_
                   try simp only [Act.put, List.setIfInBounds_toArray, List.set_cons_zero, List.set_cons_succ])
                  (refine kF.takeL (i := 4) (v := undef) rfl (by kernel_rfl) (fun _ _ _ h => h) (Or.inr ⟨by rfl, rfl⟩) ?_
                   try simp only [Act.put, List.setIfInBounds_toArray, List.set_cons_zero, List.set_cons_succ])
                  (refine kF.takeL (i := 5) (v := undef) rfl (by kernel_rfl) (fun _ _ _ h => h) (Or.inr ⟨by rfl, rfl⟩) ?_
                   try simp only [Act.put, List.setIfInBounds_toArray, List.set_cons_zero, List.set_cons_succ])
                  (refine kF.takeL (i := 6) (v := undef) rfl (by kernel_rfl) (fun _ _ _ h => h) (Or.inr ⟨by rfl, rfl⟩) ?_
                   try simp only [Act.put, List.setIfInBounds_toArray, List.set_cons_zero, List.set_cons_succ])
                  (refine kF.takeL (i := 7) (v := undef) rfl (by kernel_rfl) (fun _ _ _ h => h) (Or.inr ⟨by rfl, rfl⟩) ?_
                   try simp only [Act.put, List.setIfInBounds_toArray, List.set_cons_zero, List.set_cons_succ])
                  (refine kF.takeL (i := 8) (v := undef) rfl (by kernel_rfl) (fun _ _ _ h => h) (Or.inr ⟨by rfl, rfl⟩) ?_
                   try simp only [Act.put, List.setIfInBounds_toArray, List.set_cons_zero, List.set_cons_succ])
                  (refine kF.takeL (i := 9) (v := undef) rfl (by kernel_rfl) (fun _ _ _ h => h) (Or.inr ⟨by rfl, rfl⟩) ?_
                   try simp only [Act.put, List.setIfInBounds_toArray, List.set_cons_zero, List.set_cons_succ])
                  (refine kF.takeL (i := 10) (v := undef) rfl (by kernel_rfl) (fun _ _ _ h => h) (Or.inr ⟨by rfl, rfl⟩) ?_
                   try simp only [Act.put, List.setIfInBounds_toArray, List.set_cons_zero, List.set_cons_succ])
                  (refine kF.takeL (i := 11) (v := undef) rfl (by kernel_rfl) (fun _ _ _ h => h) (Or.inr ⟨by rfl, rfl⟩) ?_
                   try simp only [Act.put, List.setIfInBounds_toArray, List.set_cons_zero, List.set_cons_succ])
                  (refine kF.takeL (i := 12) (v := undef) rfl (by kernel_rfl) (fun _ _ _ h => h) (Or.inr ⟨by rfl, rfl⟩) ?_
                   try simp only [Act.put, List.setIfInBounds_toArray, List.set_cons_zero, List.set_cons_succ])
                  (refine kF.takeL (i := 13) (v := undef) rfl (by kernel_rfl) (fun _ _ _ h => h) (Or.inr ⟨by rfl, rfl⟩) ?_
                   try simp only [Act.put, List.setIfInBounds_toArray, List.set_cons_zero, List.set_cons_succ])
                  (refine kF.takeL (i := 14) (v := undef) rfl (by kernel_rfl) (fun _ _ _ h => h) (Or.inr ⟨by rfl, rfl⟩) ?_
                   try simp only [Act.put, List.setIfInBounds_toArray, List.set_cons_zero, List.set_cons_succ])
                  (refine kF.takeL (i := 15) (v := undef) rfl (by kernel_rfl) (fun _ _ _ h => h) (Or.inr ⟨by rfl, rfl⟩) ?_
                   try simp only [Act.put, List.setIfInBounds_toArray, List.set_cons_zero, List.set_cons_succ])
                  (refine kF.takeL (i := 16) (v := undef) rfl (by kernel_rfl) (fun _ _ _ h => h) (Or.inr ⟨by rfl, rfl⟩) ?_
                   try simp only [Act.put, List.setIfInBounds_toArray, List.set_cons_zero, List.set_cons_succ])
                  (refine kF.takeL (i := 17) (v := undef) rfl (by kernel_rfl) (fun _ _ _ h => h) (Or.inr ⟨by rfl, rfl⟩) ?_
                   try simp only [Act.put, List.setIfInBounds_toArray, List.set_cons_zero, List.set_cons_succ])
                  (refine kF.takeL (i := 18) (v := undef) rfl (by kernel_rfl) (fun _ _ _ h => h) (Or.inr ⟨by rfl, rfl⟩) ?_
                   try simp only [Act.put, List.setIfInBounds_toArray, List.set_cons_zero, List.set_cons_succ])
                  (refine kF.takeL (i := 19) (v := undef) rfl (by kernel_rfl) (fun _ _ _ h => h) (Or.inr ⟨by rfl, rfl⟩) ?_
                   try simp only [Act.put, List.setIfInBounds_toArray, List.set_cons_zero, List.set_cons_succ])
                  (refine kF.takeL (i := 20) (v := ?_) rfl (by kernel_rfl) (fun _ _ _ h => h) (Or.inl ⟨by rfl, ?_⟩) ?_
                   rotate_left
                   · (intro wS hSw; (try dsimp only at hSw); have hcS := fun b o (h : b < wx.heap.size) => hSw.cell (p := ⟨b, o, none⟩) h; go_simp; (try with_reducible rfl))
                   try simp only [Act.put, List.setIfInBounds_toArray, List.set_cons_zero, List.set_cons_succ])
                  refine kF.done (by kernel_rfl) ?_
                  --endR29a
                  go_wp2_with fail
                  go_meet
                  exact ⟨rfl, (by repeat (first | exact Below.refl _ _ | assumption | refine Below.drew ?_ | refine below_drewN ?_ _ | refine Below.alloc ?_ (by first | omega | (simp; try omega)) _ | refine Below.setCell ?_ (by first | omega | (simp; try omega)) _ | (refine Below.trans ?_ (Below.mono (by assumption) (by first | omega | (simp; try omega))))))⟩
              case rest =>
              as_aux_lemma =>
              obtain ⟨rfl, hbw⟩ := hcut
              clear x0 x1 x2 x3 x4 x5 lxx z0 z1' z2' lz p0 p1 p2 hb9x hpW
              have hcz := hbq.trans ((hcx.trans (hbw.mono hcx.size)).mono hbq.size)
              go_wp2_with fail
              go_roundw
              case rel => exact ⟨q + 1, by omega, by omega, by go_num, hcz⟩
              case measure => simp [intOf]; omega
        · have hqj : decide ((q : Int) < 60) = false := by simp; omega
          obtain ⟨x0, x1, x2, x3, x4, x5⟩ := bs.out.cells
          go_wp2_with fail
          refine (hWh.out wj sst.out hm.out).mono ?_
          rintro e w9 ⟨rfl, hb9⟩
          go_wp2_with fail
          go_ret
          exact ⟨rfl, fw.trans (hb9.mono fw.size)⟩
      · obtain rfl : q = v2 := by omega
        obtain ⟨x0, x1, x2, x3, x4, x5⟩ := bs.out.cells
        go_wp2_with fail
        refine (hWh.out wj sst.out hm.out).mono ?_
        rintro e w9 ⟨rfl, hb9⟩
        go_wp2_with fail
        go_ret
        exact ⟨rfl, fw.trans (hb9.mono fw.size)⟩
  · rintro e w2 ⟨rfl, hb2⟩
    replace fw := fw.trans (hb2.mono fw.size)
    go_wp2_with fail
    refine (law17_works w2).mono ?_
    rintro e w3 ⟨rfl, hb3⟩
    go_wp2_with fail
    go_ret
    exact ⟨rfl, fw.trans (hb3.mono fw.size)⟩
end Go.Proofs.Ythbmbbbojpdlaaa
