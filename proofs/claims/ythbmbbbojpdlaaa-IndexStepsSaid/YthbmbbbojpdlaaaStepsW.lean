/-
  The walk of IndexSteps.
-/
import Derived.Test.YthbmbbbojpdlaaaWorksI
import Derived.Test.YthbmbbbojpdlaaaStepL
import Derived.Test.YthbmbbbojpdlaaaDropA
import Derived.Test.YthbmbbbojpdlaaaSameB
import Derived.Test.YthbmbbbojpdlaaaKrip
namespace Go.Proofs.Ythbmbbbojpdlaaa
open Go.RowKit
attribute [local go_sem ↓] Go.wp_at_zero Go.wp_at_succ

theorem same_st (v v' : Rws) (s : St) (w : World) (h : StAt w w.heap.size v s) (h' : StAt w w.heap.size v' s) :
    Calls Try.prog 17 #[v.val s, v'.val s] w fun e w' => e = .returned (.bool true) ∧ Below w.heap.size w w' := by
  have := ref17_Same v v' s s w h h'
  rwa [sameSt_self] at this

set_option maxHeartbeats 16000000 in
set_option maxRecDepth 100000 in
theorem indexSteps_walk (v : Rws) (s : St) (A4 : Option Addr) (n4 c4 : Nat) (D : List ByteArray) (A5 : Option Addr) (n5 c5 : Nat) (E : List ByteArray) (A6 : Option Addr) (n6 c6 : Nat) (P : List Place) (A7 : Option Addr) (n7 c7 : Nat) (Q : List Place) (w : World)
    (h : StAt w w.heap.size v s) (hD : StrsAt w w.heap.size A4 n4 D) (hE : StrsAt w w.heap.size A5 n5 E) (hP : PlacesAt w w.heap.size A6 n6 P) (hQ : PlacesAt w w.heap.size A7 n7 Q) (okP : ∀ p ∈ P, PlaceOk p) (okQ : ∀ p ∈ Q, PlaceOk p) (hr : ReachI v) :
    Calls Try.prog 14 #[v.val s, .slice A4 n4 c4, .slice A5 n5 c5, .slice A6 n6 c6, .slice A7 n7 c7] w fun e w' => e = .returned (.bool true) ∧ Below w.heap.size w w' := by
  have hL := Lib.hid (law17_large v s · hr)
  have okPQ : ∀ p ∈ P ++ Q, PlaceOk p := fun p hp => (List.mem_append.1 hp).elim (okP p) (okQ p)
  have lD := hD.1
  have lE := hE.1
  obtain ⟨⟨⟨kk3, nn3, next3, sn3, cs3, ps3⟩, z3⟩, hx3⟩ : ∃ x, x = addIdx s (D ++ E) (P ++ Q) := ⟨_, rfl⟩
  have hA3 := fun AB NB qB AD ND qD W hs h1 h2 (hn : NB ≤ 1000) => outs (index_Add v s AB NB qB (D ++ E) AD ND qD (P ++ Q) W hs h1 h2 okPQ hn)
  rw [← hx3] at hA3
  have hst := Lib.hid h
  have hcs := addIdx_cases s D P
  have hA1 := fun W hs h1 h2 (hn : n4 ≤ 1000) => outs (index_Add v s A4 n4 c4 D A6 n6 c6 P W hs h1 h2 okP hn)
  have hS9 := fun r r' W h1 h2 => same_st r r' s W h1 h2
  obtain ⟨k, nn, next, sn, cs, ps⟩ := s
  obtain ⟨V1, v1, q1, V2, v2, q2, V3, v3, q3⟩ := v
  unfold Rws.val stv at hA1 hA3 hL hS9
  unfold Rws.val stv
  dsimp only at hA1 hA3 hL hcs hS9 ⊢
  have bs := Lib.hid (BoxAt.new w k nn next (.slice V1 v1 q1) (.slice V2 v2 q2) (.slice V3 v3 q3))
  have fw : Below w.heap.size w (w.alloc (.cells #[.int .i64 k, .int .i64 nn, .int .i64 next, .slice V1 v1 q1, .slice V2 v2 q2, .slice V3 v3 q3] 28)) := (Below.refl _ _).alloc (Nat.le_refl _) _
  have rD := Lib.hid (hD.to fw)
  have rE := Lib.hid (hE.to fw)
  have rP := Lib.hid (hP.to fw)
  have rQ := Lib.hid (hQ.to fw)
  have sst := Lib.hid (hst.out.to fw)
  replace hA1 := Lib.hid hA1
  replace hA3 := Lib.hid hA3
  replace hx3 := Lib.hid hx3
  replace hcs := Lib.hid hcs
  replace hS9 := Lib.hid hS9
  replace lD := Lib.hid lD
  replace lE := Lib.hid lE
  clear h hst hD hE hP hQ okPQ okP hr
  go_enter Try.func14, Try.ntmps14
  go_upto_region 1 with fail
  generalize w.alloc (.cells #[.int .i64 k, .int .i64 nn, .int .i64 next, .slice V1 v1 q1, .slice V2 v2 q2, .slice V3 v3 q3] 28) = w0 at bs fw rD rE rP rQ sst ⊢
  go_wp2_with fail
  refine (law17_works w0).mono ?_
  rintro e w1 ⟨rfl, hb1⟩
  replace bs := Lib.hid (bs.out.below hb1)
  replace sst := Lib.hid (sst.out.to hb1)
  replace rD := Lib.hid (rD.out.to hb1)
  replace rE := Lib.hid (rE.out.to hb1)
  replace rP := Lib.hid (rP.out.to hb1)
  replace rQ := Lib.hid (rQ.out.to hb1)
  replace fw := fw.trans (hb1.mono fw.size)
  obtain ⟨x0, x1, x2, x3, x4, x5⟩ := bs.out.cells
  have lx := bs.out.lt
  go_wp2_with fail
  refine (hL.out w1).mono ?_
  have stop : ∀ (W : World), Below w.heap.size w W → True := fun _ _ => trivial
  clear stop
  cases largeI ⟨V1, v1, q1, V2, v2, q2, V3, v3, q3⟩
  · rintro e w2 ⟨rfl, hb2⟩
    replace bs := Lib.hid (bs.out.below hb2)
    replace sst := Lib.hid (sst.out.to hb2)
    replace rD := Lib.hid (rD.out.to hb2)
    replace rE := Lib.hid (rE.out.to hb2)
    replace rP := Lib.hid (rP.out.to hb2)
    replace rQ := Lib.hid (rQ.out.to hb2)
    replace fw := fw.trans (hb2.mono fw.size)
    clear x0 x1 x2 x3 x4 x5 lx
    by_cases h4 : 500 < n4
    · have g : decide ((500 : Int) < (n4 : Int)) = true := by simp; omega
      go_wp2_with fail
      refine (law17_works w2).mono ?_
      rintro e w3 ⟨rfl, hb3⟩
      go_wp2_with fail
      go_ret
      exact ⟨rfl, fw.trans (hb3.mono fw.size)⟩
    have g4 : decide ((500 : Int) < (n4 : Int)) = false := by simp; omega
    by_cases h5 : 500 < n5
    · have g : decide ((500 : Int) < (n5 : Int)) = true := by simp; omega
      go_wp2_with fail
      refine (law17_works w2).mono ?_
      rintro e w3 ⟨rfl, hb3⟩
      go_wp2_with fail
      go_ret
      exact ⟨rfl, fw.trans (hb3.mono fw.size)⟩
    have g5 : decide ((500 : Int) < (n5 : Int)) = false := by simp; omega
    by_cases h6 : 500 < n6
    · have g : decide ((500 : Int) < (n6 : Int)) = true := by simp; omega
      go_wp2_with fail
      refine (law17_works w2).mono ?_
      rintro e w3 ⟨rfl, hb3⟩
      go_wp2_with fail
      go_ret
      exact ⟨rfl, fw.trans (hb3.mono fw.size)⟩
    have g6 : decide ((500 : Int) < (n6 : Int)) = false := by simp; omega
    by_cases h7 : 500 < n7
    · have g : decide ((500 : Int) < (n7 : Int)) = true := by simp; omega
      go_wp2_with fail
      refine (law17_works w2).mono ?_
      rintro e w3 ⟨rfl, hb3⟩
      go_wp2_with fail
      go_ret
      exact ⟨rfl, fw.trans (hb3.mono fw.size)⟩
    have g7 : decide ((500 : Int) < (n7 : Int)) = false := by simp; omega
    obtain ⟨x0, x1, x2, x3, x4, x5⟩ := bs.out.cells
    have lx := bs.out.lt
    go_wp2_with fail
    rcases hcs.out with ⟨z1, he1, hz1⟩ | ⟨c1s, p1s, hok1, he1⟩
    · rw [he1] at hA1
      have g : (z1 != 0) = true := by simpa using hz1
      replace hz1 := Lib.hid hz1
      replace he1 := Lib.hid he1
      refine (hA1.out w2 sst.out rD.out rP.out (by omega)).mono ?_
      rintro e w3 ⟨a1, a2, a3, a4, a5, a6, a7, a8, a9, rfl, ho⟩
      have hb3 := ho.below
      clear ho
      go_wp2_with fail
      go_ret
      exact ⟨rfl, (fw.trans (hb3.mono fw.size)).alloc (by have := fw.size; have := hb3.size; omega) _⟩
    rw [he1] at hA1
    replace he1 := Lib.hid he1
    have hok1 := Lib.hid hok1
    clear x0 x1 x2 x3 x4 x5 lx
    --BODY
    obtain ⟨⟨⟨kk2, nn2, next2, sn2, cs2, ps2⟩, z2⟩, hx2⟩ : ∃ x, x = addIdx ⟨k, nn, next, sn, c1s, p1s⟩ E Q := ⟨_, rfl⟩
    have hA2 := fun r W hs h1 h2 (hn : n5 ≤ 1000) => outs (index_Add r ⟨k, nn, next, sn, c1s, p1s⟩ A5 n5 c5 E A7 n7 c7 Q W hs h1 h2 okQ hn)
    rw [← hx2] at hA2
    dsimp only at hA1 hA2
    have hD1 := fun r W hs h1 (hn : n4 ≤ 1000) => outs (index_Drop r ⟨k, nn, next, sn, cs2, ps2⟩ A4 n4 c4 D W hs h1 hn)
    have hD2 := fun r W hs h1 (hn : n5 ≤ 1000) => outs (index_Drop r ⟨k, nn, next, sn, (dropGo D cs2 ps2).1, (dropGo D cs2 ps2).2⟩ A5 n5 c5 E W hs h1 hn)
    have hD3 := fun r AB NB qB W hs h1 (hn : NB ≤ 1000) => outs (index_Drop r ⟨k, nn, next, sn, cs2, ps2⟩ AB NB qB (E ++ D) W hs h1 hn)
    have hS8 := fun r r' W h1 h2 => same_st r r' ⟨k, nn, next, sn, cs2, ps2⟩ W h1 h2
    unfold Rws.val stv at hS8
    dsimp only at hS8
    have hlaw := steps_law hok1.out hx2 hx3.out
    obtain ⟨NB, hNB⟩ : ∃ x, x = (D ++ E).length := ⟨_, rfl⟩
    obtain ⟨ND, hND⟩ : ∃ x, x = (P ++ Q).length := ⟨_, rfl⟩
    obtain ⟨NE, hNE⟩ : ∃ x, x = (E ++ D).length := ⟨_, rfl⟩
    have lD9 : D.length ≤ 500 := by have := lD.out; omega
    have lE9 : E.length ≤ 500 := by have := lE.out; omega
    have lP9 : P.length ≤ 500 := by have := rP.out.1; omega
    have lQ9 : Q.length ≤ 500 := by have := rQ.out.1; omega
    have lNB : NB ≤ 1000 := by rw [hNB, List.length_append]; omega
    have lNE : NE ≤ 1000 := by rw [hNE, List.length_append]; omega
    replace hA2 := Lib.hid hA2
    replace hx2 := Lib.hid hx2
    replace hD1 := Lib.hid hD1
    replace hD2 := Lib.hid hD2
    replace hD3 := Lib.hid hD3
    replace hS8 := Lib.hid hS8
    replace hlaw := Lib.hid hlaw
    replace hNB := Lib.hid hNB
    replace hND := Lib.hid hND
    replace hNE := Lib.hid hNE
    obtain ⟨x0, x1, x2, x3, x4, x5⟩ := bs.out.cells
    have lx := bs.out.lt
    refine (hA1.out w2 sst.out rD.out rP.out (by omega)).mono ?_
    rintro e w3 ⟨A1, Al1, Ac1, A2, Al2, Ac2, A3, Al3, Ac3, rfl, how3⟩
    have hdw3 := how3.below
    replace bs := Lib.hid (bs.out.below hdw3)
    replace sst := Lib.hid (sst.out.to hdw3)
    replace rD := Lib.hid (rD.out.to hdw3)
    replace rE := Lib.hid (rE.out.to hdw3)
    replace rP := Lib.hid (rP.out.to hdw3)
    replace rQ := Lib.hid (rQ.out.to hdw3)
    replace fw := fw.trans (hdw3.mono fw.size)
    have tsta := how3.st
    clear how3 hdw3
    clear x0 x1 x2 x3 x4 x5 lx
    obtain ⟨nba, hba⟩ : ∃ x, x = w3.heap.size := ⟨_, rfl⟩
    obtain ⟨g3, hg3⟩ : ∃ x, x = w3.alloc (.cells #[.int .i64 k, .int .i64 nn, .int .i64 next, .slice A1 Al1 Ac1, .slice A2 Al2 Ac2, .slice A3 Al3 Ac3] 28) := ⟨_, rfl⟩
    have hfg3 : Below w3.heap.size w3 g3 := by rw [hg3]; exact (Below.refl _ _).alloc (Nat.le_refl _) _
    replace bs := Lib.hid (bs.out.below hfg3)
    replace sst := Lib.hid (sst.out.to hfg3)
    replace rD := Lib.hid (rD.out.to hfg3)
    replace rE := Lib.hid (rE.out.to hfg3)
    replace rP := Lib.hid (rP.out.to hfg3)
    replace rQ := Lib.hid (rQ.out.to hfg3)
    replace fw := fw.trans (hfg3.mono fw.size)
    have ba : Hid (BoxAt g3 nba k nn next (.slice A1 Al1 Ac1) (.slice A2 Al2 Ac2) (.slice A3 Al3 Ac3)) := by rw [hg3, hba]; exact BoxAt.new w3 _ _ _ _ _ _
    have sta := Lib.hid (tsta.to hfg3)
    clear tsta hfg3
    replace hba := Lib.hid hba
    replace hg3 := Lib.hid hg3
    go_wp2_with fail
    rw [← hba.out, ← hg3.out]
    have x0 := True.intro
    have x1 := True.intro
    have x2 := True.intro
    have x3 := True.intro
    have x4 := True.intro
    have x5 := True.intro
    have lx := True.intro
    refine (hA2.out ⟨A1, Al1, Ac1, A2, Al2, Ac2, A3, Al3, Ac3⟩ g3 sta.out rE.out rQ.out (by omega)).mono ?_
    rintro e w6 ⟨B1, Bl1, Bc1, B2, Bl2, Bc2, B3, Bl3, Bc3, rfl, how6⟩
    have hdw6 := how6.below
    replace bs := Lib.hid (bs.out.below hdw6)
    replace sst := Lib.hid (sst.out.to hdw6)
    replace rD := Lib.hid (rD.out.to hdw6)
    replace rE := Lib.hid (rE.out.to hdw6)
    replace rP := Lib.hid (rP.out.to hdw6)
    replace rQ := Lib.hid (rQ.out.to hdw6)
    replace ba := Lib.hid (ba.out.below hdw6)
    replace sta := Lib.hid (sta.out.to hdw6)
    replace fw := fw.trans (hdw6.mono fw.size)
    have tstb := how6.st
    clear how6 hdw6
    clear x0 x1 x2 x3 x4 x5 lx
    obtain ⟨nbb, hbb⟩ : ∃ x, x = w6.heap.size := ⟨_, rfl⟩
    obtain ⟨g6, hg6⟩ : ∃ x, x = w6.alloc (.cells #[.int .i64 kk2, .int .i64 nn2, .int .i64 next2, .slice B1 Bl1 Bc1, .slice B2 Bl2 Bc2, .slice B3 Bl3 Bc3] 28) := ⟨_, rfl⟩
    have hfg6 : Below w6.heap.size w6 g6 := by rw [hg6]; exact (Below.refl _ _).alloc (Nat.le_refl _) _
    replace bs := Lib.hid (bs.out.below hfg6)
    replace sst := Lib.hid (sst.out.to hfg6)
    replace rD := Lib.hid (rD.out.to hfg6)
    replace rE := Lib.hid (rE.out.to hfg6)
    replace rP := Lib.hid (rP.out.to hfg6)
    replace rQ := Lib.hid (rQ.out.to hfg6)
    replace ba := Lib.hid (ba.out.below hfg6)
    replace sta := Lib.hid (sta.out.to hfg6)
    replace fw := fw.trans (hfg6.mono fw.size)
    have bb : Hid (BoxAt g6 nbb kk2 nn2 next2 (.slice B1 Bl1 Bc1) (.slice B2 Bl2 Bc2) (.slice B3 Bl3 Bc3)) := by rw [hg6, hbb]; exact BoxAt.new w6 _ _ _ _ _ _
    have stb := Lib.hid (tstb.to hfg6)
    clear tstb hfg6
    replace hbb := Lib.hid hbb
    replace hg6 := Lib.hid hg6
    go_wp2_with fail
    rw [← hbb.out, ← hg6.out]
    obtain ⟨x0, x1, x2, x3, x4, x5⟩ := bs.out.cells
    have lx := bs.out.lt
    refine region_krip (fun W : World => Below g6.heap.size g6 W) (by kernel_rfl) ((Below.refl _ _).drew) ?_
    (refine kF.takeL (i := 0) (v := ?_) rfl (by kernel_rfl) (fun _ _ _ h => h) (Or.inl ⟨by rfl, ?_⟩) ?_
     rotate_left
     · (intro wS hSw; (try dsimp only at hSw); have hcS := fun b o (h : b < g6.heap.size) => hSw.cell (p := ⟨b, o, none⟩) h; go_simp; (try with_reducible rfl))
     try simp only [Act.put, List.setIfInBounds_toArray, List.set_cons_zero, List.set_cons_succ])
    (refine kF.takeL (i := 2) (v := ?_) rfl (by kernel_rfl) (fun _ _ _ h => h) (Or.inl ⟨by rfl, ?_⟩) ?_
     rotate_left
     · (intro wS hSw; (try dsimp only at hSw); have hcS := fun b o (h : b < g6.heap.size) => hSw.cell (p := ⟨b, o, none⟩) h; go_simp; (try with_reducible rfl))
     try simp only [Act.put, List.setIfInBounds_toArray, List.set_cons_zero, List.set_cons_succ])
    (refine kF.takeL (i := 4) (v := ?_) rfl (by kernel_rfl) (fun _ _ _ h => h) (Or.inl ⟨by rfl, ?_⟩) ?_
     rotate_left
     · (intro wS hSw; (try dsimp only at hSw); have hcS := fun b o (h : b < g6.heap.size) => hSw.cell (p := ⟨b, o, none⟩) h; go_simp; (try with_reducible rfl))
     try simp only [Act.put, List.setIfInBounds_toArray, List.set_cons_zero, List.set_cons_succ])
    (refine kF.takeL (i := 7) (v := ?_) rfl (by kernel_rfl) (fun _ _ _ h => h) (Or.inl ⟨by rfl, ?_⟩) ?_
     rotate_left
     · (intro wS hSw; (try dsimp only at hSw); have hcS := fun b o (h : b < g6.heap.size) => hSw.cell (p := ⟨b, o, none⟩) h; go_simp; (try with_reducible rfl))
     try simp only [Act.put, List.setIfInBounds_toArray, List.set_cons_zero, List.set_cons_succ])
    (refine kF.takeL (i := 9) (v := ?_) rfl (by kernel_rfl) (fun _ _ _ h => h) (Or.inl ⟨by rfl, ?_⟩) ?_
     rotate_left
     · (intro wS hSw; (try dsimp only at hSw); have hcS := fun b o (h : b < g6.heap.size) => hSw.cell (p := ⟨b, o, none⟩) h; go_simp; (try with_reducible rfl))
     try simp only [Act.put, List.setIfInBounds_toArray, List.set_cons_zero, List.set_cons_succ])
    (refine kF.newL (i := 15) (fun b => .pointer (some ⟨b, 0, none⟩)) (.cells #[.int .i64 0, .int .i64 0, .int .i64 0, .slice none 0 0, .slice none 0 0, .slice none 0 0] 28) rfl (by kernel_rfl) (by rfl) ?_ ?_
     · (intro wS; go_simp; (try with_reducible rfl)))
    (refine kF.newL (i := 6) (fun b => .slice (some ⟨b, 0, none⟩) 0 0) (.cells #[] 34) rfl (by kernel_rfl) (by rfl) ?_ ?_
     · (intro wS; go_simp; (try with_reducible rfl)))
    (refine kF.newL (i := 1) (fun b => .slice (some ⟨b, 0, none⟩) 0 0) (.cells #[] 9) rfl (by kernel_rfl) (by rfl) ?_ ?_
     · (intro wS; go_simp; (try with_reducible rfl)))
    (refine kF.settleL (by kernel_rfl) (fun _ _ h1 h2 => below_S (Nat.le_refl _) h1 h2) (fun u1 hbu1 hSu1 v hv => ?_)
     obtain ⟨bu1, hBu1, rfl, hxu1⟩ := hv
     try simp only [Act.put, List.setIfInBounds_toArray, List.set_cons_zero, List.set_cons_succ])
    (refine kF.onlyL (j := 3) rfl (by kernel_rfl) (fun _ _ _ _ _ h => h) (fun _ _ h1 h2 => below_S (Nat.le_refl _) h1 h2) (fun k3 hbk3 hek3 hSk3 K hK => ?_)
     ((apply Elem.step_row strE (s := .tmp 67) (x := .tmp 68) (base := g6.heap.size) (l := []) (l' := D); (case' hgd => rfl); (case' ho => rfl); (case' hs => rfl); (case' hx => rfl); (case' hown => exact (own_empty (k := strE.k) (enc := strE.enc) (T := strE.T) (blkB hxu1 hbk3) hBu1)); (case' hr => exact ((rD.out.to hSk3))); (case' hl => exact (by simp; omega)); (case' hbase => exact Below.size (by assumption))); intro va ma oa ga _)
     refine hK.out _ _ (Below.grownOwn hSk3 (own_empty (k := strE.k) (enc := strE.enc) (T := strE.T) (blkB hxu1 hbk3) hBu1) (Nat.le_refl _) (hSk3.size) ga) (.inr (.inr ⟨ga.size, (by intro x hx v hv; simp only [List.mem_cons, List.not_mem_nil, or_false] at hx; rcases hx with rfl | rfl <;> exact newV.grownOwn hv (own_empty (k := strE.k) (enc := strE.enc) (T := strE.T) (blkB hxu1 hbk3) hBu1) ga (by decide))⟩)) ?_
     clear hK K hek3
     try simp only [Act.put, List.setIfInBounds_toArray, List.set_cons_zero, List.set_cons_succ])
    (refine kF.onlyL (j := 5) rfl (by kernel_rfl) (fun _ _ _ _ _ h => h) (fun _ _ h1 h2 => below_S (Nat.le_refl _) h1 h2) (fun k5 hbk5 hek5 hSk5 K hK => ?_)
     ((apply Elem.step_row strE (s := .tmp 69) (x := .tmp 70) (base := g6.heap.size) (l := ([] ++ D)) (l' := E); (case' hgd => rfl); (case' ho => rfl); (case' hs => rfl); (case' hx => rfl); (case' hown => exact (oa.below hbk5)); (case' hr => exact ((rE.out.to hSk5))); (case' hl => exact (by simp; omega)); (case' hbase => exact Below.size (by assumption))); intro vb mb ob gb _)
     refine hK.out _ _ (Below.grownOwn hSk5 (oa.below hbk5) (Nat.le_refl _) (hSk5.size) gb) (.inr (.inr ⟨gb.size, (by intro x hx v hv; simp only [List.mem_cons, List.not_mem_nil, or_false] at hx; rcases hx with rfl | rfl <;> exact newV.grownOwn hv (oa.below hbk5) gb (by decide))⟩)) ?_
     clear hK K hek5
     try simp only [Act.put, List.setIfInBounds_toArray, List.set_cons_zero, List.set_cons_succ])
    (refine kF.settleL (by kernel_rfl) (fun _ _ h1 h2 => below_S (Nat.le_refl _) h1 h2) (fun u6 hbu6 hSu6 v hv => ?_)
     obtain ⟨bu6, hBu6, rfl, hxu6⟩ := hv
     try simp only [Act.put, List.setIfInBounds_toArray, List.set_cons_zero, List.set_cons_succ])
    have obs := ob.below hbu6
    (refine kF.onlyL (j := 8) rfl (by kernel_rfl) (fun _ _ _ _ _ h => h) (fun _ _ h1 h2 => below_S (Nat.le_refl _) h1 h2) (fun k8 hbk8 hek8 hSk8 K hK => ?_)
     ((apply Elem.step_row placeE (s := .tmp 72) (x := .tmp 73) (base := g6.heap.size) (l := []) (l' := P); (case' hgd => rfl); (case' ho => rfl); (case' hs => rfl); (case' hx => rfl); (case' hown => exact (own_empty (k := placeE.k) (enc := placeE.enc) (T := placeE.T) (blkB hxu6 hbk8) hBu6)); (case' hr => exact ((rP.out.to hSk8))); (case' hl => exact (by simp; omega)); (case' hbase => exact Below.size (by assumption))); intro vc mc oc gc _)
     refine hK.out _ _ (Below.grownOwn hSk8 (own_empty (k := placeE.k) (enc := placeE.enc) (T := placeE.T) (blkB hxu6 hbk8) hBu6) (Nat.le_refl _) (hSk8.size) gc) (.inr (.inr ⟨gc.size, (by intro x hx v hv; simp only [List.mem_singleton] at hx; subst hx; exact newV.grownOwn hv (own_empty (k := placeE.k) (enc := placeE.enc) (T := placeE.T) (blkB hxu6 hbk8) hBu6) gc (by decide))⟩)) ?_
     clear hK K hek8
     try simp only [Act.put, List.setIfInBounds_toArray, List.set_cons_zero, List.set_cons_succ])
    have obt := Owns.grownT (obs.below hbk8) (own_empty (k := placeE.k) (enc := placeE.enc) (T := placeE.T) (base := g6.heap.size) (blkB hxu6 hbk8) hBu6) gc (by decide)
    (refine kF.onlyL (j := 10) rfl (by kernel_rfl) (fun _ _ _ _ _ h => h) (fun _ _ h1 h2 => below_S (Nat.le_refl _) h1 h2) (fun k10 hbk10 hek10 hSk10 K hK => ?_)
     ((apply Elem.step_row placeE (s := .tmp 74) (x := .tmp 75) (base := g6.heap.size) (l := ([] ++ P)) (l' := Q); (case' hgd => rfl); (case' ho => rfl); (case' hs => rfl); (case' hx => rfl); (case' hown => exact (oc.below hbk10)); (case' hr => exact ((rQ.out.to hSk10))); (case' hl => exact (by simp; omega)); (case' hbase => exact Below.size (by assumption))); intro vd md od gd _)
     refine hK.out _ _ (Below.grownOwn hSk10 (oc.below hbk10) (Nat.le_refl _) (hSk10.size) gd) (.inr (.inr ⟨gd.size, (by intro x hx v hv; simp only [List.mem_singleton] at hx; subst hx; exact newV.grownOwn hv (oc.below hbk10) gd (by decide))⟩)) ?_
     clear hK K hek10
     try simp only [Act.put, List.setIfInBounds_toArray, List.set_cons_zero, List.set_cons_succ])
    have obu := Owns.grownT (obt.below hbk10) (oc.below hbk10) gd (by decide)
    rw [List.nil_append] at obu od
    obtain ⟨AB, qB, rfl⟩ : ∃ A c, vb = .slice A NB c := by obtain ⟨A, c, e⟩ := obu.form; exact ⟨A, c, by rw [e, hNB.out]⟩
    obtain ⟨AD, qD, rfl⟩ : ∃ A c, vd = .slice A ND c := by obtain ⟨A, c, e⟩ := od.form; exact ⟨A, c, by rw [e, hND.out]⟩
    (refine kF.onlyL (j := 11) rfl (by kernel_rfl) (fun _ _ _ _ _ h => h) (fun _ _ h1 h2 => below_S (Nat.le_refl _) h1 h2) (fun k11 hbk11 hek11 hSk11 K hK => ?_)
     (go_simp; refine (hA3.out AB NB qB AD ND qD k11 (sst.out.to hSk11) ((obu.row strCell_len).to hbk11) ((od.row Place.cells_len).to hbk11) lNB).mono ?_; rintro e w7 ⟨C1, Cl1, Cc1, C2, Cl2, Cc2, C3, Cl3, Cc3, rfl, ho⟩; have hb11 := ho.below)
     refine hK.out _ _ (below_S (Nat.le_refl _) hSk11 hb11) (.inr (.inl hb11)) ?_
     clear hK K hek11
     try simp only [Act.put, List.setIfInBounds_toArray, List.set_cons_zero, List.set_cons_succ])
    (refine kF.takeL (i := 12) (v := ?_) rfl (by kernel_rfl) (fun _ _ _ h => h) (Or.inl ⟨by rfl, ?_⟩) ?_
     rotate_left
     · (intro wS hSw; (try dsimp only at hSw); have hcS := fun b o (h : b < g6.heap.size) => hSw.cell (p := ⟨b, o, none⟩) h; go_simp; (try with_reducible rfl))
     try simp only [Act.put, List.setIfInBounds_toArray, List.set_cons_zero, List.set_cons_succ])
    (refine kF.takeL (i := 13) (v := ?_) rfl (by kernel_rfl) (fun _ _ _ h => h) (Or.inl ⟨by rfl, ?_⟩) ?_
     rotate_left
     · (intro wS hSw; (try dsimp only at hSw); have hcS := fun b o (h : b < g6.heap.size) => hSw.cell (p := ⟨b, o, none⟩) h; go_simp; (try with_reducible rfl))
     try simp only [Act.put, List.setIfInBounds_toArray, List.set_cons_zero, List.set_cons_succ])
    (refine kF.takeL (i := 14) (v := ?_) rfl (by kernel_rfl) (fun _ _ _ h => h) (Or.inl ⟨by rfl, ?_⟩) ?_
     rotate_left
     · (intro wS hSw; (try dsimp only at hSw); have hcS := fun b o (h : b < g6.heap.size) => hSw.cell (p := ⟨b, o, none⟩) h; go_simp; (try with_reducible rfl))
     try simp only [Act.put, List.setIfInBounds_toArray, List.set_cons_zero, List.set_cons_succ])
    (refine kF.settleL (by kernel_rfl) (fun _ _ h1 h2 => below_S (Nat.le_refl _) h1 h2) (fun u15 hbu15 hSu15 v hv => ?_)
     obtain ⟨bu15, hBu15, rfl, hxu15⟩ := hv
     try simp only [Act.put, List.setIfInBounds_toArray, List.set_cons_zero, List.set_cons_succ])
    obtain ⟨y0, y1, y2, y3, y4, y5⟩ := BoxAt.cells hxu15
    have e0 := BoxAt.frozen hxu15 0
    have e1 := BoxAt.frozen hxu15 1
    have e2 := BoxAt.frozen hxu15 2
    have e3 := BoxAt.frozen hxu15 3
    have e4 := BoxAt.frozen hxu15 4
    have e5 := BoxAt.frozen hxu15 5
    (refine kF.lastL (j := 16) rfl (by kernel_rfl) (fun _ _ _ _ _ h => h) (fun _ _ h1 h2 => below_S (Nat.le_refl _) h1 h2) (fun hSk K hK => ?_)
     go_simp
     refine hK.out _ _ (below_st6 hSk hBu15 _ _ _ _ _ _) ?_
     clear hK K
     try simp only [Act.put, List.setIfInBounds_toArray, List.set_cons_zero, List.set_cons_succ])
    (refine kF.takeL (i := 17) (v := ?_) rfl (by kernel_rfl) (fun _ _ _ h => h) (Or.inl ⟨by rfl, ?_⟩) ?_
     rotate_left
     · (intro wS hSw; (try dsimp only at hSw); have hcS := fun b o (h : b < g6.heap.size) => hSw.cell (p := ⟨b, o, none⟩) h; go_simp; (try with_reducible rfl))
     try simp only [Act.put, List.setIfInBounds_toArray, List.set_cons_zero, List.set_cons_succ])
    refine kF.done (by kernel_rfl) ?_
    have hSg7 : Below g6.heap.size g6 ((((((u15.setCell ⟨bu15, 0, none⟩ (.int .i64 kk3)).setCell ⟨bu15, 1, none⟩ (.int .i64 nn3)).setCell ⟨bu15, 2, none⟩ (.int .i64 next3)).setCell ⟨bu15, 3, none⟩ (.slice C1 Cl1 Cc1)).setCell ⟨bu15, 4, none⟩ (.slice C2 Cl2 Cc2)).setCell ⟨bu15, 5, none⟩ (.slice C3 Cl3 Cc3)) := below_st6 hSu15 hBu15 kk3 nn3 next3 (.slice C1 Cl1 Cc1) (.slice C2 Cl2 Cc2) (.slice C3 Cl3 Cc3)
    have bc : Hid (BoxAt ((((((u15.setCell ⟨bu15, 0, none⟩ (.int .i64 kk3)).setCell ⟨bu15, 1, none⟩ (.int .i64 nn3)).setCell ⟨bu15, 2, none⟩ (.int .i64 next3)).setCell ⟨bu15, 3, none⟩ (.slice C1 Cl1 Cc1)).setCell ⟨bu15, 4, none⟩ (.slice C2 Cl2 Cc2)).setCell ⟨bu15, 5, none⟩ (.slice C3 Cl3 Cc3)) bu15 kk3 nn3 next3 (.slice C1 Cl1 Cc1) (.slice C2 Cl2 Cc2) (.slice C3 Cl3 Cc3)) := BoxAt.st6 hxu15 kk3 nn3 next3 (.slice C1 Cl1 Cc1) (.slice C2 Cl2 Cc2) (.slice C3 Cl3 Cc3)
    have stc : Hid (StAt ((((((u15.setCell ⟨bu15, 0, none⟩ (.int .i64 kk3)).setCell ⟨bu15, 1, none⟩ (.int .i64 nn3)).setCell ⟨bu15, 2, none⟩ (.int .i64 next3)).setCell ⟨bu15, 3, none⟩ (.slice C1 Cl1 Cc1)).setCell ⟨bu15, 4, none⟩ (.slice C2 Cl2 Cc2)).setCell ⟨bu15, 5, none⟩ (.slice C3 Cl3 Cc3)) ((((((u15.setCell ⟨bu15, 0, none⟩ (.int .i64 kk3)).setCell ⟨bu15, 1, none⟩ (.int .i64 nn3)).setCell ⟨bu15, 2, none⟩ (.int .i64 next3)).setCell ⟨bu15, 3, none⟩ (.slice C1 Cl1 Cc1)).setCell ⟨bu15, 4, none⟩ (.slice C2 Cl2 Cc2)).setCell ⟨bu15, 5, none⟩ (.slice C3 Cl3 Cc3)).heap.size ⟨C1, Cl1, Cc1, C2, Cl2, Cc2, C3, Cl3, Cc3⟩ ⟨kk3, nn3, next3, sn3, cs3, ps3⟩) := StAt.box (ho.st.to hbu15) hxu15 kk3 nn3 next3 (.slice C1 Cl1 Cc1) (.slice C2 Cl2 Cc2) (.slice C3 Cl3 Cc3)
    obtain ⟨nbc, hnbc⟩ : ∃ x, x = bu15 := ⟨_, rfl⟩
    clear y0 y1 y2 y3 y4 y5 e0 e1 e2 e3 e4 e5
    generalize ((((((u15.setCell ⟨bu15, 0, none⟩ (.int .i64 kk3)).setCell ⟨bu15, 1, none⟩ (.int .i64 nn3)).setCell ⟨bu15, 2, none⟩ (.int .i64 next3)).setCell ⟨bu15, 3, none⟩ (.slice C1 Cl1 Cc1)).setCell ⟨bu15, 4, none⟩ (.slice C2 Cl2 Cc2)).setCell ⟨bu15, 5, none⟩ (.slice C3 Cl3 Cc3)) = g7 at hSg7 bc stc ⊢
    replace bs := Lib.hid (bs.out.below hSg7)
    replace sst := Lib.hid (sst.out.to hSg7)
    replace rD := Lib.hid (rD.out.to hSg7)
    replace rE := Lib.hid (rE.out.to hSg7)
    replace rP := Lib.hid (rP.out.to hSg7)
    replace rQ := Lib.hid (rQ.out.to hSg7)
    replace bb := Lib.hid (bb.out.below hSg7)
    replace stb := Lib.hid (stb.out.to hSg7)
    replace fw := fw.trans (hSg7.mono fw.size)
    clear x0 x1 x2 x3 x4 x5 lx
    rcases hlaw.out with ⟨hE0, hQ0, hz2⟩ | ⟨hz2, hz3⟩ | ⟨c2s, p2s, hok2, hok3, he2, he3⟩
    · have g1 : n5 = 0 := by have := rE.out.1; rw [hE0] at this; simpa using this.symm
      have g2 : n7 = 0 := by have := rQ.out.1; rw [hQ0] at this; simpa using this.symm
      subst hz2
      by_cases hz3 : z3 = 0
      · subst hz3
        subst g1
        subst g2
        clear hE0 hQ0
        go_wp2_with fail
        go_ret
        exact ⟨by simp, fw⟩
      · have g3 : (z3 != 0) = true := by simpa using hz3
        subst g1
        subst g2
        replace hz3 := Lib.hid hz3
        clear hE0 hQ0
        go_wp2_with fail
        go_ret
        exact ⟨by simp, fw⟩
    · have g2 : (z2 != 0) = true := by simpa using hz2
      have g3 : (z3 != 0) = true := by simpa using hz3
      replace hz2 := Lib.hid hz2
      replace hz3 := Lib.hid hz3
      go_wp2_with fail
      go_ret
      exact ⟨by simp, fw⟩
    · obtain ⟨rfl, rfl, rfl, rfl, rfl, rfl, rfl⟩ := he2
      obtain ⟨rfl, rfl, rfl, rfl, rfl, rfl, rfl⟩ := he3
      obtain ⟨e1, e2, e3⟩ := steps_drop hok1.out hok2 hok3
      dsimp only at e1 e2 e3
      rw [e1] at hD1
      rw [e2] at hD2
      rw [e3] at hD3
      replace hok2 := Lib.hid hok2
      replace hok3 := Lib.hid hok3
      replace e1 := Lib.hid e1
      replace e2 := Lib.hid e2
      replace e3 := Lib.hid e3
      obtain ⟨x0, x1, x2, x3, x4, x5⟩ := bb.out.cells
      have lx := bb.out.lt
      obtain ⟨y0, y1, y2, y3, y4, y5⟩ := bc.out.cells
      have ly := bc.out.lt
      go_wp2_with fail
      refine (hS8.out ⟨B1, Bl1, Bc1, B2, Bl2, Bc2, B3, Bl3, Bc3⟩ ⟨C1, Cl1, Cc1, C2, Cl2, Cc2, C3, Cl3, Cc3⟩ g7 stb.out stc.out).mono ?_
      rintro e w8 ⟨rfl, hb8⟩
      clear x0 x1 x2 x3 x4 x5 lx
      clear y0 y1 y2 y3 y4 y5 ly
      replace bs := Lib.hid (bs.out.below hb8)
      replace sst := Lib.hid (sst.out.to hb8)
      replace rD := Lib.hid (rD.out.to hb8)
      replace rE := Lib.hid (rE.out.to hb8)
      replace rP := Lib.hid (rP.out.to hb8)
      replace rQ := Lib.hid (rQ.out.to hb8)
      replace bb := Lib.hid (bb.out.below hb8)
      replace stb := Lib.hid (stb.out.to hb8)
      replace bc := Lib.hid (bc.out.below hb8)
      replace stc := Lib.hid (stc.out.to hb8)
      replace fw := fw.trans (hb8.mono fw.size)
      obtain ⟨x0, x1, x2, x3, x4, x5⟩ := bb.out.cells
      have lx := bb.out.lt
      go_wp2_with fail
      refine (hD1.out ⟨B1, Bl1, Bc1, B2, Bl2, Bc2, B3, Bl3, Bc3⟩ w8 stb.out rD.out (by omega)).mono ?_
      rintro e w9 ⟨X1, Xl1, Xc1, X2, Xl2, Xc2, X3, Xl3, Xc3, rfl, how9⟩
      have hdw9 := how9.below
      replace bs := Lib.hid (bs.out.below hdw9)
      replace sst := Lib.hid (sst.out.to hdw9)
      replace rD := Lib.hid (rD.out.to hdw9)
      replace rE := Lib.hid (rE.out.to hdw9)
      replace rP := Lib.hid (rP.out.to hdw9)
      replace rQ := Lib.hid (rQ.out.to hdw9)
      replace bb := Lib.hid (bb.out.below hdw9)
      replace stb := Lib.hid (stb.out.to hdw9)
      replace fw := fw.trans (hdw9.mono fw.size)
      have tstx := how9.st
      clear how9 hdw9
      clear x0 x1 x2 x3 x4 x5 lx
      obtain ⟨nbx, hbx⟩ : ∃ x, x = w9.heap.size := ⟨_, rfl⟩
      obtain ⟨g9, hg9⟩ : ∃ x, x = w9.alloc (.cells #[.int .i64 kk3, .int .i64 nn3, .int .i64 next3, .slice X1 Xl1 Xc1, .slice X2 Xl2 Xc2, .slice X3 Xl3 Xc3] 28) := ⟨_, rfl⟩
      have hfg9 : Below w9.heap.size w9 g9 := by rw [hg9]; exact (Below.refl _ _).alloc (Nat.le_refl _) _
      replace bs := Lib.hid (bs.out.below hfg9)
      replace sst := Lib.hid (sst.out.to hfg9)
      replace rD := Lib.hid (rD.out.to hfg9)
      replace rE := Lib.hid (rE.out.to hfg9)
      replace rP := Lib.hid (rP.out.to hfg9)
      replace rQ := Lib.hid (rQ.out.to hfg9)
      replace bb := Lib.hid (bb.out.below hfg9)
      replace stb := Lib.hid (stb.out.to hfg9)
      replace fw := fw.trans (hfg9.mono fw.size)
      have bx : Hid (BoxAt g9 nbx kk3 nn3 next3 (.slice X1 Xl1 Xc1) (.slice X2 Xl2 Xc2) (.slice X3 Xl3 Xc3)) := by rw [hg9, hbx]; exact BoxAt.new w9 _ _ _ _ _ _
      have stx := Lib.hid (tstx.to hfg9)
      clear tstx hfg9
      replace hbx := Lib.hid hbx
      replace hg9 := Lib.hid hg9
      go_wp2_with fail
      rw [← hbx.out, ← hg9.out]
      have x0 := True.intro
      have x1 := True.intro
      have x2 := True.intro
      have x3 := True.intro
      have x4 := True.intro
      have x5 := True.intro
      have lx := True.intro
      refine (hD2.out ⟨X1, Xl1, Xc1, X2, Xl2, Xc2, X3, Xl3, Xc3⟩ g9 stx.out rE.out (by omega)).mono ?_
      rintro e w10 ⟨Y1, Yl1, Yc1, Y2, Yl2, Yc2, Y3, Yl3, Yc3, rfl, how10⟩
      have hdw10 := how10.below
      replace bs := Lib.hid (bs.out.below hdw10)
      replace sst := Lib.hid (sst.out.to hdw10)
      replace rD := Lib.hid (rD.out.to hdw10)
      replace rE := Lib.hid (rE.out.to hdw10)
      replace rP := Lib.hid (rP.out.to hdw10)
      replace rQ := Lib.hid (rQ.out.to hdw10)
      replace bb := Lib.hid (bb.out.below hdw10)
      replace stb := Lib.hid (stb.out.to hdw10)
      replace bx := Lib.hid (bx.out.below hdw10)
      replace stx := Lib.hid (stx.out.to hdw10)
      replace fw := fw.trans (hdw10.mono fw.size)
      have tsty := how10.st
      clear how10 hdw10
      clear x0 x1 x2 x3 x4 x5 lx
      obtain ⟨nby_, hby_⟩ : ∃ x, x = w10.heap.size := ⟨_, rfl⟩
      obtain ⟨g10, hg10⟩ : ∃ x, x = w10.alloc (.cells #[.int .i64 kk3, .int .i64 nn3, .int .i64 next3, .slice Y1 Yl1 Yc1, .slice Y2 Yl2 Yc2, .slice Y3 Yl3 Yc3] 28) := ⟨_, rfl⟩
      have hfg10 : Below w10.heap.size w10 g10 := by rw [hg10]; exact (Below.refl _ _).alloc (Nat.le_refl _) _
      replace bs := Lib.hid (bs.out.below hfg10)
      replace sst := Lib.hid (sst.out.to hfg10)
      replace rD := Lib.hid (rD.out.to hfg10)
      replace rE := Lib.hid (rE.out.to hfg10)
      replace rP := Lib.hid (rP.out.to hfg10)
      replace rQ := Lib.hid (rQ.out.to hfg10)
      replace bb := Lib.hid (bb.out.below hfg10)
      replace stb := Lib.hid (stb.out.to hfg10)
      replace bx := Lib.hid (bx.out.below hfg10)
      replace stx := Lib.hid (stx.out.to hfg10)
      replace fw := fw.trans (hfg10.mono fw.size)
      have by_ : Hid (BoxAt g10 nby_ kk3 nn3 next3 (.slice Y1 Yl1 Yc1) (.slice Y2 Yl2 Yc2) (.slice Y3 Yl3 Yc3)) := by rw [hg10, hby_]; exact BoxAt.new w10 _ _ _ _ _ _
      have sty := Lib.hid (tsty.to hfg10)
      clear tsty hfg10
      replace hby_ := Lib.hid hby_
      replace hg10 := Lib.hid hg10
      go_wp2_with fail
      rw [← hby_.out, ← hg10.out]
      obtain ⟨x0, x1, x2, x3, x4, x5⟩ := bb.out.cells
      have lx := bb.out.lt
      refine region_krip (fun W : World => Below g10.heap.size g10 W) (by kernel_rfl) ((Below.refl _ _).drew) ?_
      (refine kF.takeL (i := 0) (v := ?_) rfl (by kernel_rfl) (fun _ _ _ h => h) (Or.inl ⟨by rfl, ?_⟩) ?_
       rotate_left
       · (intro wS hSw; (try dsimp only at hSw); have hcS := fun b o (h : b < g10.heap.size) => hSw.cell (p := ⟨b, o, none⟩) h; go_simp; (try with_reducible rfl))
       try simp only [Act.put, List.setIfInBounds_toArray, List.set_cons_zero, List.set_cons_succ])
      (refine kF.takeL (i := 2) (v := ?_) rfl (by kernel_rfl) (fun _ _ _ h => h) (Or.inl ⟨by rfl, ?_⟩) ?_
       rotate_left
       · (intro wS hSw; (try dsimp only at hSw); have hcS := fun b o (h : b < g10.heap.size) => hSw.cell (p := ⟨b, o, none⟩) h; go_simp; (try with_reducible rfl))
       try simp only [Act.put, List.setIfInBounds_toArray, List.set_cons_zero, List.set_cons_succ])
      (refine kF.takeL (i := 4) (v := ?_) rfl (by kernel_rfl) (fun _ _ _ h => h) (Or.inl ⟨by rfl, ?_⟩) ?_
       rotate_left
       · (intro wS hSw; (try dsimp only at hSw); have hcS := fun b o (h : b < g10.heap.size) => hSw.cell (p := ⟨b, o, none⟩) h; go_simp; (try with_reducible rfl))
       try simp only [Act.put, List.setIfInBounds_toArray, List.set_cons_zero, List.set_cons_succ])
      (refine kF.newL (i := 10) (fun b => .pointer (some ⟨b, 0, none⟩)) (.cells #[.int .i64 0, .int .i64 0, .int .i64 0, .slice none 0 0, .slice none 0 0, .slice none 0 0] 28) rfl (by kernel_rfl) (by rfl) ?_ ?_
       · (intro wS; go_simp; (try with_reducible rfl)))
      (refine kF.newL (i := 1) (fun b => .slice (some ⟨b, 0, none⟩) 0 0) (.cells #[] 9) rfl (by kernel_rfl) (by rfl) ?_ ?_
       · (intro wS; go_simp; (try with_reducible rfl)))
      (refine kF.settleL (by kernel_rfl) (fun _ _ h1 h2 => below_S (Nat.le_refl _) h1 h2) (fun u1 hbu1 hSu1 v hv => ?_)
       obtain ⟨bu1, hBu1, rfl, hxu1⟩ := hv
       try simp only [Act.put, List.setIfInBounds_toArray, List.set_cons_zero, List.set_cons_succ])
      (refine kF.onlyL (j := 3) rfl (by kernel_rfl) (fun _ _ _ _ _ h => h) (fun _ _ h1 h2 => below_S (Nat.le_refl _) h1 h2) (fun k3 hbk3 hek3 hSk3 K hK => ?_)
       ((apply Elem.step_row strE (s := .tmp 120) (x := .tmp 121) (base := g10.heap.size) (l := []) (l' := E); (case' hgd => rfl); (case' ho => rfl); (case' hs => rfl); (case' hx => rfl); (case' hown => exact (own_empty (k := strE.k) (enc := strE.enc) (T := strE.T) (blkB hxu1 hbk3) hBu1)); (case' hr => exact ((rE.out.to hSk3))); (case' hl => exact (by simp; omega)); (case' hbase => exact Below.size (by assumption))); intro va ma oa ga _)
       refine hK.out _ _ (Below.grownOwn hSk3 (own_empty (k := strE.k) (enc := strE.enc) (T := strE.T) (blkB hxu1 hbk3) hBu1) (Nat.le_refl _) (hSk3.size) ga) (.inr (.inr ⟨ga.size, (by intro x hx v hv; simp only [List.mem_singleton] at hx; subst hx; exact newV.grownOwn hv (own_empty (k := strE.k) (enc := strE.enc) (T := strE.T) (blkB hxu1 hbk3) hBu1) ga (by decide))⟩)) ?_
       clear hK K hek3
       try simp only [Act.put, List.setIfInBounds_toArray, List.set_cons_zero, List.set_cons_succ])
      (refine kF.onlyL (j := 5) rfl (by kernel_rfl) (fun _ _ _ _ _ h => h) (fun _ _ h1 h2 => below_S (Nat.le_refl _) h1 h2) (fun k5 hbk5 hek5 hSk5 K hK => ?_)
       ((apply Elem.step_row strE (s := .tmp 122) (x := .tmp 123) (base := g10.heap.size) (l := ([] ++ E)) (l' := D); (case' hgd => rfl); (case' ho => rfl); (case' hs => rfl); (case' hx => rfl); (case' hown => exact (oa.below hbk5)); (case' hr => exact ((rD.out.to hSk5))); (case' hl => exact (by simp; omega)); (case' hbase => exact Below.size (by assumption))); intro vb mb ob gb _)
       refine hK.out _ _ (Below.grownOwn hSk5 (oa.below hbk5) (Nat.le_refl _) (hSk5.size) gb) (.inr (.inr ⟨gb.size, (by intro x hx v hv; simp only [List.mem_singleton] at hx; subst hx; exact newV.grownOwn hv (oa.below hbk5) gb (by decide))⟩)) ?_
       clear hK K hek5
       try simp only [Act.put, List.setIfInBounds_toArray, List.set_cons_zero, List.set_cons_succ])
      rw [List.nil_append] at ob
      obtain ⟨AB, qB, rfl⟩ : ∃ A c, vb = .slice A NE c := by obtain ⟨A, c, e⟩ := ob.form; exact ⟨A, c, by rw [e, hNE.out]⟩
      (refine kF.onlyL (j := 6) rfl (by kernel_rfl) (fun _ _ _ _ _ h => h) (fun _ _ h1 h2 => below_S (Nat.le_refl _) h1 h2) (fun k6 hbk6 hek6 hSk6 K hK => ?_)
       (go_simp; refine (hD3.out ⟨B1, Bl1, Bc1, B2, Bl2, Bc2, B3, Bl3, Bc3⟩ AB NE qB k6 (stb.out.to hSk6) ((ob.row strCell_len).to hbk6) lNE).mono ?_; rintro e w14 ⟨Z1, Zl1, Zc1, Z2, Zl2, Zc2, Z3, Zl3, Zc3, rfl, ho⟩; have hb6 := ho.below)
       refine hK.out _ _ (below_S (Nat.le_refl _) hSk6 hb6) (.inr (.inl hb6)) ?_
       clear hK K hek6
       try simp only [Act.put, List.setIfInBounds_toArray, List.set_cons_zero, List.set_cons_succ])
      (refine kF.takeL (i := 7) (v := ?_) rfl (by kernel_rfl) (fun _ _ _ h => h) (Or.inl ⟨by rfl, ?_⟩) ?_
       rotate_left
       · (intro wS hSw; (try dsimp only at hSw); have hcS := fun b o (h : b < g10.heap.size) => hSw.cell (p := ⟨b, o, none⟩) h; go_simp; (try with_reducible rfl))
       try simp only [Act.put, List.setIfInBounds_toArray, List.set_cons_zero, List.set_cons_succ])
      (refine kF.takeL (i := 8) (v := ?_) rfl (by kernel_rfl) (fun _ _ _ h => h) (Or.inl ⟨by rfl, ?_⟩) ?_
       rotate_left
       · (intro wS hSw; (try dsimp only at hSw); have hcS := fun b o (h : b < g10.heap.size) => hSw.cell (p := ⟨b, o, none⟩) h; go_simp; (try with_reducible rfl))
       try simp only [Act.put, List.setIfInBounds_toArray, List.set_cons_zero, List.set_cons_succ])
      (refine kF.takeL (i := 9) (v := ?_) rfl (by kernel_rfl) (fun _ _ _ h => h) (Or.inl ⟨by rfl, ?_⟩) ?_
       rotate_left
       · (intro wS hSw; (try dsimp only at hSw); have hcS := fun b o (h : b < g10.heap.size) => hSw.cell (p := ⟨b, o, none⟩) h; go_simp; (try with_reducible rfl))
       try simp only [Act.put, List.setIfInBounds_toArray, List.set_cons_zero, List.set_cons_succ])
      (refine kF.settleL (by kernel_rfl) (fun _ _ h1 h2 => below_S (Nat.le_refl _) h1 h2) (fun u10 hbu10 hSu10 v hv => ?_)
       obtain ⟨bu10, hBu10, rfl, hxu10⟩ := hv
       try simp only [Act.put, List.setIfInBounds_toArray, List.set_cons_zero, List.set_cons_succ])
      obtain ⟨y0, y1, y2, y3, y4, y5⟩ := BoxAt.cells hxu10
      have e0 := BoxAt.frozen hxu10 0
      have e1 := BoxAt.frozen hxu10 1
      have e2 := BoxAt.frozen hxu10 2
      have e3 := BoxAt.frozen hxu10 3
      have e4 := BoxAt.frozen hxu10 4
      have e5 := BoxAt.frozen hxu10 5
      (refine kF.lastL (j := 11) rfl (by kernel_rfl) (fun _ _ _ _ _ h => h) (fun _ _ h1 h2 => below_S (Nat.le_refl _) h1 h2) (fun hSk K hK => ?_)
       go_simp
       refine hK.out _ _ (below_st6 hSk hBu10 _ _ _ _ _ _) ?_
       clear hK K
       try simp only [Act.put, List.setIfInBounds_toArray, List.set_cons_zero, List.set_cons_succ])
      (refine kF.takeL (i := 12) (v := ?_) rfl (by kernel_rfl) (fun _ _ _ h => h) (Or.inl ⟨by rfl, ?_⟩) ?_
       rotate_left
       · (intro wS hSw; (try dsimp only at hSw); have hcS := fun b o (h : b < g10.heap.size) => hSw.cell (p := ⟨b, o, none⟩) h; go_simp; (try with_reducible rfl))
       try simp only [Act.put, List.setIfInBounds_toArray, List.set_cons_zero, List.set_cons_succ])
      refine kF.done (by kernel_rfl) ?_
      have hSg14 : Below g10.heap.size g10 ((((((u10.setCell ⟨bu10, 0, none⟩ (.int .i64 kk3)).setCell ⟨bu10, 1, none⟩ (.int .i64 nn3)).setCell ⟨bu10, 2, none⟩ (.int .i64 next3)).setCell ⟨bu10, 3, none⟩ (.slice Z1 Zl1 Zc1)).setCell ⟨bu10, 4, none⟩ (.slice Z2 Zl2 Zc2)).setCell ⟨bu10, 5, none⟩ (.slice Z3 Zl3 Zc3)) := below_st6 hSu10 hBu10 kk3 nn3 next3 (.slice Z1 Zl1 Zc1) (.slice Z2 Zl2 Zc2) (.slice Z3 Zl3 Zc3)
      have bz : Hid (BoxAt ((((((u10.setCell ⟨bu10, 0, none⟩ (.int .i64 kk3)).setCell ⟨bu10, 1, none⟩ (.int .i64 nn3)).setCell ⟨bu10, 2, none⟩ (.int .i64 next3)).setCell ⟨bu10, 3, none⟩ (.slice Z1 Zl1 Zc1)).setCell ⟨bu10, 4, none⟩ (.slice Z2 Zl2 Zc2)).setCell ⟨bu10, 5, none⟩ (.slice Z3 Zl3 Zc3)) bu10 kk3 nn3 next3 (.slice Z1 Zl1 Zc1) (.slice Z2 Zl2 Zc2) (.slice Z3 Zl3 Zc3)) := BoxAt.st6 hxu10 kk3 nn3 next3 (.slice Z1 Zl1 Zc1) (.slice Z2 Zl2 Zc2) (.slice Z3 Zl3 Zc3)
      have stz : Hid (StAt ((((((u10.setCell ⟨bu10, 0, none⟩ (.int .i64 kk3)).setCell ⟨bu10, 1, none⟩ (.int .i64 nn3)).setCell ⟨bu10, 2, none⟩ (.int .i64 next3)).setCell ⟨bu10, 3, none⟩ (.slice Z1 Zl1 Zc1)).setCell ⟨bu10, 4, none⟩ (.slice Z2 Zl2 Zc2)).setCell ⟨bu10, 5, none⟩ (.slice Z3 Zl3 Zc3)) ((((((u10.setCell ⟨bu10, 0, none⟩ (.int .i64 kk3)).setCell ⟨bu10, 1, none⟩ (.int .i64 nn3)).setCell ⟨bu10, 2, none⟩ (.int .i64 next3)).setCell ⟨bu10, 3, none⟩ (.slice Z1 Zl1 Zc1)).setCell ⟨bu10, 4, none⟩ (.slice Z2 Zl2 Zc2)).setCell ⟨bu10, 5, none⟩ (.slice Z3 Zl3 Zc3)).heap.size ⟨Z1, Zl1, Zc1, Z2, Zl2, Zc2, Z3, Zl3, Zc3⟩ ⟨kk3, nn3, next3, sn3, cs, ps⟩) := StAt.box (ho.st.to hbu10) hxu10 kk3 nn3 next3 (.slice Z1 Zl1 Zc1) (.slice Z2 Zl2 Zc2) (.slice Z3 Zl3 Zc3)
      obtain ⟨nbz, hnbz⟩ : ∃ x, x = bu10 := ⟨_, rfl⟩
      clear y0 y1 y2 y3 y4 y5 e0 e1 e2 e3 e4 e5
      generalize ((((((u10.setCell ⟨bu10, 0, none⟩ (.int .i64 kk3)).setCell ⟨bu10, 1, none⟩ (.int .i64 nn3)).setCell ⟨bu10, 2, none⟩ (.int .i64 next3)).setCell ⟨bu10, 3, none⟩ (.slice Z1 Zl1 Zc1)).setCell ⟨bu10, 4, none⟩ (.slice Z2 Zl2 Zc2)).setCell ⟨bu10, 5, none⟩ (.slice Z3 Zl3 Zc3)) = g14 at hSg14 bz stz ⊢
      replace bs := Lib.hid (bs.out.below hSg14)
      replace sst := Lib.hid (sst.out.to hSg14)
      replace rD := Lib.hid (rD.out.to hSg14)
      replace rE := Lib.hid (rE.out.to hSg14)
      replace rP := Lib.hid (rP.out.to hSg14)
      replace rQ := Lib.hid (rQ.out.to hSg14)
      replace bb := Lib.hid (bb.out.below hSg14)
      replace stb := Lib.hid (stb.out.to hSg14)
      replace by_ := Lib.hid (by_.out.below hSg14)
      replace sty := Lib.hid (sty.out.to hSg14)
      replace fw := fw.trans (hSg14.mono fw.size)
      clear x0 x1 x2 x3 x4 x5 lx
      obtain ⟨x0, x1, x2, x3, x4, x5⟩ := by_.out.cells
      have lx := by_.out.lt
      obtain ⟨y0, y1, y2, y3, y4, y5⟩ := bz.out.cells
      have ly := bz.out.lt
      go_wp2_with fail
      refine (hS9.out ⟨Y1, Yl1, Yc1, Y2, Yl2, Yc2, Y3, Yl3, Yc3⟩ ⟨Z1, Zl1, Zc1, Z2, Zl2, Zc2, Z3, Zl3, Zc3⟩ g14 sty.out stz.out).mono ?_
      rintro e w15 ⟨rfl, hb15⟩
      clear x0 x1 x2 x3 x4 x5 lx
      clear y0 y1 y2 y3 y4 y5 ly
      replace bs := Lib.hid (bs.out.below hb15)
      replace sst := Lib.hid (sst.out.to hb15)
      replace rD := Lib.hid (rD.out.to hb15)
      replace rE := Lib.hid (rE.out.to hb15)
      replace rP := Lib.hid (rP.out.to hb15)
      replace rQ := Lib.hid (rQ.out.to hb15)
      replace bb := Lib.hid (bb.out.below hb15)
      replace stb := Lib.hid (stb.out.to hb15)
      replace by_ := Lib.hid (by_.out.below hb15)
      replace sty := Lib.hid (sty.out.to hb15)
      replace bz := Lib.hid (bz.out.below hb15)
      replace stz := Lib.hid (stz.out.to hb15)
      replace fw := fw.trans (hb15.mono fw.size)
      obtain ⟨x0, x1, x2, x3, x4, x5⟩ := bz.out.cells
      have lx := bz.out.lt
      obtain ⟨y0, y1, y2, y3, y4, y5⟩ := bs.out.cells
      have ly := bs.out.lt
      go_wp2_with fail
      refine (hS9.out ⟨Z1, Zl1, Zc1, Z2, Zl2, Zc2, Z3, Zl3, Zc3⟩ ⟨V1, v1, q1, V2, v2, q2, V3, v3, q3⟩ w15 stz.out sst.out).mono ?_
      rintro e w16 ⟨rfl, hb16⟩
      replace fw := fw.trans (hb16.mono fw.size)
      clear x0 x1 x2 x3 x4 x5 lx
      clear y0 y1 y2 y3 y4 y5 ly
      go_wp2_with fail
      go_ret
      exact ⟨by simp, fw⟩
    --END
  · rintro e w2 ⟨rfl, hb2⟩
    replace fw := fw.trans (hb2.mono fw.size)
    go_wp2_with fail
    refine (law17_works w2).mono ?_
    rintro e w3 ⟨rfl, hb3⟩
    go_wp2_with fail
    go_ret
    exact ⟨rfl, fw.trans (hb3.mono fw.size)⟩
end Go.Proofs.Ythbmbbbojpdlaaa
