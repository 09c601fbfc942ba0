/-
  The walk of RootMakes.
-/
import Derived.Test.YthbmbbbojpdlaaaSameB
import Derived.Test.YthbmbbbojpdlaaaMakeB
import Derived.Test.YthbmbbbojpdlaaaLarge
import Derived.Test.YthbmbbbojpdlaaaStBox
namespace Go.Proofs.Ythbmbbbojpdlaaa
open Go.RowKit
attribute [local go_sem ↓] Go.wp_at_zero Go.wp_at_succ

set_option maxHeartbeats 1000000 in
set_option maxRecDepth 100000 in
theorem rootMakes_walk (v v' : Rws) (s s' : St) (w : World) (h : StAt w w.heap.size v s) (h' : StAt w w.heap.size v' s') (hr : Reach v) (hr' : Reach v') :
    Calls Try.prog 4 #[v.val s, v'.val s'] w fun e w' => e = .returned (.bool true) ∧ Below w.heap.size w w' := by
  have hL := Lib.hid (law23_large v s · hr)
  have hL' := Lib.hid (law23_large v' s' · hr')
  have hRM := Lib.hid (fun W (hb : Below w.heap.size w W) => ref23_Make v s W (h.to hb))
  have hM1 := Lib.hid (fun W (hb : Below w.heap.size w W) => root_May v s W (h.to hb))
  have hM2 := Lib.hid (fun W (hb : Below w.heap.size w W) => ref23_May v s W (h.to hb))
  have hS1 := Lib.hid (fun W (hb : Below w.heap.size w W) => root_Same v v' s s' W (h.to hb) (h'.to hb))
  have hS2 := Lib.hid (fun W (hb : Below w.heap.size w W) => ref17_Same v v' s s' W (h.to hb) (h'.to hb))
  have hst := Lib.hid h
  have hlg : Hid (largeB v = false → v.n2 + v.n3 ≤ 1500 ∧ v.n1 ≤ 2000) := fun h => by
    simp [largeB] at h
    omega
  clear h' hr hr'
  obtain ⟨k, n, next, sn, cs, ps⟩ := s
  obtain ⟨A1, n1, c1, A2, n2, c2, A3, n3, c3⟩ := v
  obtain ⟨k', n', next', sn', cs', ps'⟩ := s'
  obtain ⟨A1', n1', c1', A2', n2', c2', A3', n3', c3'⟩ := v'
  unfold Rws.val stv at hL hL' hRM hM1 hM2 hS1 hS2 ⊢
  dsimp only at hL hL' hRM hM1 hM2 hS1 hS2 hlg ⊢
  go_enter Try.func4, Try.ntmps4
  go_wp2_with fail
  refine (hL.out _).mono ?_
  cases hlb : largeB ⟨A1, n1, c1, A2, n2, c2, A3, n3, c3⟩
  · obtain ⟨m23, m1⟩ := hlg.out hlb
    clear hlb
    rintro e w1 ⟨rfl, hb1⟩
    have hz1 := hb1.size
    simp at hz1
    have e1 : Below (w.heap.size + 2) (twoBox w k n next A1 n1 c1 A2 n2 c2 A3 n3 c3 k' n' next' A1' n1' c1' A2' n2' c2' A3' n3' c3') w1 := hb1.mono (by simp)
    obtain ⟨⟨x0, x1, x2, x3, x4, x5⟩, ⟨y0, y1, y2, y3, y4, y5⟩, f1, -⟩ := two_cells e1
    go_wp2_with fail
    refine (hL'.out _).mono ?_
    cases hlb' : largeB ⟨A1', n1', c1', A2', n2', c2', A3', n3', c3'⟩
    · clear hlb'
      rintro e w2 ⟨rfl, hb2⟩
      have hz2 := hb2.size
      have e2 := e1.trans (hb2.mono (by omega))
      clear x0 x1 x2 x3 x4 x5 y0 y1 y2 y3 y4 y5
      obtain ⟨⟨x0, x1, x2, x3, x4, x5⟩, ⟨y0, y1, y2, y3, y4, y5⟩, f2, -⟩ := two_cells e2
      have hl1 : w.heap.size < w2.heap.size := by omega
      have hl2 : w.heap.size + 1 < w2.heap.size := by omega
      have hR1 : Hid (∀ W : World, Below w.heap.size w W → SnapsAt W W.heap.size A1 n1 sn) := fun W hb => hst.out.sn.to hb
      have hR2 : Hid (∀ W : World, Below w.heap.size w W → StrsAt W W.heap.size A2 n2 cs) := fun W hb => hst.out.cs.to hb
      have hR3 : Hid (∀ W : World, Below w.heap.size w W → PlacesAt W W.heap.size A3 n3 ps) := fun W hb => hst.out.ps.to hb
      have l1 := Lib.hid hst.out.sn.1
      have l2 := Lib.hid hst.out.cs.1
      have l3 := Lib.hid hst.out.ps.1
      dsimp only at l1 l2 l3
      have tok1 : True := trivial
      have tok2 : True := trivial
      go_wp2_with (first
        | (at_builtin; have _t := tok1; go_must (refine Elem.wpList_row snapE rfl (.tmp 17) (.tmp 19) rfl (w2.heap.size + 1) (.slice (some ⟨w2.heap.size + 1, 0, none⟩) 0 0) [] rfl _ _ _ _ rfl (Owns.emptyAt _ (by simp) (by simp)) _ (hR1.out _ (by repeat (first | exact Below.refl _ _ | assumption | refine Below.drew ?_ | refine below_drewN ?_ _ | refine Below.alloc ?_ (by first | omega | (simp; try omega)) _ | refine Below.setCell ?_ (by first | omega | (simp; try omega)) _ | (refine Below.trans ?_ (Below.mono (by assumption) (by first | omega | (simp; try omega))))))) (by (try simp only [List.length_nil, Nat.zero_add]); omega) (by first | omega | (simp; try omega)) ?_)
           go_must (
             intro v3 w3 hown3 hg3 hat3
             rw [List.nil_append] at hown3
             obtain ⟨A4, c4, rfl⟩ : ∃ A c, v3 = .slice A n1 c := by
               obtain ⟨A, c, e⟩ := hown3.form
               exact ⟨A, c, by rw [e, l1.out]⟩
             have hz3 := hg3.size
             simp at hz3
             have bx3 : BoxAt w3 w2.heap.size k n next (.slice A1 n1 c1) (.slice A2 n2 c2) (.slice A3 n3 c3) := ((BoxAt.new w2 _ _ _ _ _ _).alloc _).grown hg3 (by simp [Value.ownBlock])
             have b3 : Below w2.heap.size w2 w3 := Below.grown (by repeat (first | exact Below.refl _ _ | assumption | refine Below.drew ?_ | refine below_drewN ?_ _ | refine Below.alloc ?_ (by first | omega | (simp; try omega)) _ | refine Below.setCell ?_ (by first | omega | (simp; try omega)) _ | (refine Below.trans ?_ (Below.mono (by assumption) (by first | omega | (simp; try omega)))))) hg3 (by first | omega | (simp; try omega)) (fun _ hi => own_in hi (by first | omega | (simp; try omega)))
             have e3 := e2.trans (b3.mono (by omega))
             clear x0 x1 x2 x3 x4 x5 y0 y1 y2 y3 y4 y5
             obtain ⟨⟨x0, x1, x2, x3, x4, x5⟩, ⟨y0, y1, y2, y3, y4, y5⟩, f3, -⟩ := two_cells e3
             obtain ⟨z0, z1, z2, z3, z4, z5⟩ := bx3.cells
             have fz3 := bx3.frozen 3
             have hm1 : w.heap.size < w3.heap.size := by omega
             have hm2 : w2.heap.size < w3.heap.size := by omega
             have hne1 : w2.heap.size ≠ w.heap.size := by omega
             have hne2 : w2.heap.size ≠ w.heap.size + 1 := by omega
             replace hown3 := Lib.hid hown3
             replace bx3 := Lib.hid bx3
             clear tok1 _t))
        | (at_builtin; have _t := tok2; go_must (refine Elem.wpList_row strE rfl (.tmp 22) (.tmp 24) rfl (w2.heap.size + 1) (.slice (some ⟨w3.heap.size, 0, none⟩) 0 0) [] rfl _ _ _ _ rfl (Owns.emptyAt _ (by first | rfl | simp) (by first | omega | (simp; try omega))) _ (hR2.out _ (by repeat (first | exact Below.refl _ _ | assumption | refine Below.drew ?_ | refine below_drewN ?_ _ | refine Below.alloc ?_ (by first | omega | (simp; try omega)) _ | refine Below.setCell ?_ (by first | omega | (simp; try omega)) _ | (refine Below.trans ?_ (Below.mono (by assumption) (by first | omega | (simp; try omega))))))) (by (try simp only [List.length_nil, Nat.zero_add]); omega) (by first | omega | (simp; try omega)) ?_)
           go_must (
             intro v5 w5 hown5 hg5 hat5
             rw [List.nil_append] at hown5
             obtain ⟨A5, c5, rfl⟩ : ∃ A c, v5 = .slice A n2 c := by
               obtain ⟨A, c, e⟩ := hown5.form
               exact ⟨A, c, by rw [e, l2.out]⟩
             have hz5 := hg5.size
             simp at hz5
             have bx5 : BoxAt w5 w2.heap.size k n next (.slice A4 n1 c4) (.slice A2 n2 c2) (.slice A3 n3 c3) := ((bx3.out.set3 _).alloc _).grown hg5 (by simp [Value.ownBlock]; omega)
             have own4 : snapE.Own w5 (w2.heap.size + 1) (.slice A4 n1 c4) sn := ((hown3.out.setOther _ (by omega)).alloc _).grown hg5 (hown3.out.ne_new (by first | omega | (simp; try omega)))
             have b5 : Below w2.heap.size w2 w5 := Below.grown (by repeat (first | exact Below.refl _ _ | assumption | refine Below.drew ?_ | refine below_drewN ?_ _ | refine Below.alloc ?_ (by first | omega | (simp; try omega)) _ | refine Below.setCell ?_ (by first | omega | (simp; try omega)) _ | (refine Below.trans ?_ (Below.mono (by assumption) (by first | omega | (simp; try omega)))))) hg5 (by first | omega | (simp; try omega)) (fun _ hi => own_in hi (by first | omega | (simp; try omega)))
             have e5 := e2.trans (b5.mono (by omega))
             clear x0 x1 x2 x3 x4 x5 y0 y1 y2 y3 y4 y5 z0 z1 z2 z3 z4 z5 fz3
             obtain ⟨⟨x0, x1, x2, x3, x4, x5⟩, ⟨y0, y1, y2, y3, y4, y5⟩, f5, -⟩ := two_cells e5
             obtain ⟨z0, z1, z2, z3, z4, z5⟩ := bx5.cells
             have fz4 := bx5.frozen 4
             have hm3 : w.heap.size < w5.heap.size := by omega
             have hm4 : w2.heap.size < w5.heap.size := by omega
             replace hown5 := Lib.hid hown5
             replace own4 := Lib.hid own4
             replace bx5 := Lib.hid bx5
             clear tok2 _t))
        | (at_builtin; go_must (refine Elem.wpList_row placeE rfl (.tmp 27) (.tmp 29) rfl (w2.heap.size + 1) (.slice (some ⟨w5.heap.size, 0, none⟩) 0 0) [] rfl _ _ _ _ rfl (Owns.emptyAt _ (by first | rfl | simp) (by first | omega | (simp; try omega))) _ (hR3.out _ (by repeat (first | exact Below.refl _ _ | assumption | refine Below.drew ?_ | refine below_drewN ?_ _ | refine Below.alloc ?_ (by first | omega | (simp; try omega)) _ | refine Below.setCell ?_ (by first | omega | (simp; try omega)) _ | (refine Below.trans ?_ (Below.mono (by assumption) (by first | omega | (simp; try omega))))))) (by (try simp only [List.length_nil, Nat.zero_add]); omega) (by first | omega | (simp; try omega)) ?_)
           go_must (
             intro v7 w7 hown7 hg7 hat7
             rw [List.nil_append] at hown7
             obtain ⟨A6, c6, rfl⟩ : ∃ A c, v7 = .slice A n3 c := by
               obtain ⟨A, c, e⟩ := hown7.form
               exact ⟨A, c, by rw [e, l3.out]⟩
             have hz7 := hg7.size
             simp at hz7
             have bx7 : BoxAt w7 w2.heap.size k n next (.slice A4 n1 c4) (.slice A5 n2 c5) (.slice A3 n3 c3) := ((bx5.out.set4 _).alloc _).grown hg7 (by simp [Value.ownBlock]; omega)
             have own4' : snapE.Own w7 (w2.heap.size + 1) (.slice A4 n1 c4) sn := ((own4.out.setOther _ (by omega)).alloc _).grown hg7 (own4.out.ne_new (by first | omega | (simp; try omega)))
             have own5' : strE.Own w7 (w2.heap.size + 1) (.slice A5 n2 c5) cs := ((hown5.out.setOther _ (by omega)).alloc _).grown hg7 (hown5.out.ne_new (by first | omega | (simp; try omega)))
             have b7 : Below w2.heap.size w2 w7 := Below.grown (by repeat (first | exact Below.refl _ _ | assumption | refine Below.drew ?_ | refine below_drewN ?_ _ | refine Below.alloc ?_ (by first | omega | (simp; try omega)) _ | refine Below.setCell ?_ (by first | omega | (simp; try omega)) _ | (refine Below.trans ?_ (Below.mono (by assumption) (by first | omega | (simp; try omega)))))) hg7 (by first | omega | (simp; try omega)) (fun _ hi => own_in hi (by first | omega | (simp; try omega)))
             have e7 := e2.trans (b7.mono (by omega))
             clear x0 x1 x2 x3 x4 x5 y0 y1 y2 y3 y4 y5 z0 z1 z2 z3 z4 z5 fz4
             obtain ⟨⟨x0, x1, x2, x3, x4, x5⟩, ⟨y0, y1, y2, y3, y4, y5⟩, f7, -⟩ := two_cells e7
             obtain ⟨z0, z1, z2, z3, z4, z5⟩ := bx7.cells
             have fz5 := bx7.frozen 5
             have hm5 : w.heap.size < w7.heap.size := by omega
             have hm6 : w2.heap.size < w7.heap.size := by omega
             replace hown7 := Lib.hid hown7
             replace own4' := Lib.hid own4'
             replace own5' := Lib.hid own5'
             replace bx7 := Lib.hid bx7)))
      have own4'' : snapE.Own _ (w2.heap.size + 1) (.slice A4 n1 c4) sn := own4'.out.setOther (b := w2.heap.size) (o := 5) (.slice A6 n3 c6) (by omega)
      have own5'' : strE.Own _ (w2.heap.size + 1) (.slice A5 n2 c5) cs := own5'.out.setOther (b := w2.heap.size) (o := 5) (.slice A6 n3 c6) (by omega)
      have own6'' : placeE.Own _ (w2.heap.size + 1) (.slice A6 n3 c6) ps := hown7.out.setOther (b := w2.heap.size) (o := 5) (.slice A6 n3 c6) (by omega)
      have bx8 := bx7.out.set5 (.slice A6 n3 c6)
      have b8 : Below w2.heap.size w2 (w7.setCell ⟨w2.heap.size, 5, none⟩ (.slice A6 n3 c6)) := (by repeat (first | exact Below.refl _ _ | assumption | refine Below.drew ?_ | refine below_drewN ?_ _ | refine Below.alloc ?_ (by first | omega | (simp; try omega)) _ | refine Below.setCell ?_ (by first | omega | (simp; try omega)) _ | (refine Below.trans ?_ (Below.mono (by assumption) (by first | omega | (simp; try omega))))))
      have z8 : (w7.setCell ⟨w2.heap.size, 5, none⟩ (.slice A6 n3 c6)).heap.size = w7.heap.size := by simp
      generalize w7.setCell ⟨w2.heap.size, 5, none⟩ (.slice A6 n3 c6) = W8 at own4'' own5'' own6'' bx8 b8 z8 ⊢
      have e8 := e2.trans (b8.mono (by omega))
      have hin : StAt W8 W8.heap.size ⟨A4, n1, c4, A5, n2, c5, A6, n3, c6⟩ ⟨k, n, next, sn, cs, ps⟩ := ⟨own4''.row Snap.len, own5''.row strCell_len, own6''.row Place.cells_len, hst.out.ok⟩
      replace hin := Lib.hid hin
      replace bx8 := Lib.hid bx8
      clear own4' own5' own4'' own5'' own6'' bx7 hown7 bx5 own4 hown5 bx3 hown3 x0 x1 x2 x3 x4 x5 y0 y1 y2 y3 y4 y5 z0 z1 z2 z3 z4 z5 fz5
      obtain ⟨R, hR⟩ : ∃ R, R = (makeRes ⟨k, n, next, sn, cs, ps⟩).1 := ⟨_, rfl⟩
      obtain ⟨E, hE⟩ : ∃ E, E = (makeRes ⟨k, n, next, sn, cs, ps⟩).2 := ⟨_, rfl⟩
      have hmk := root_Make ⟨A4, n1, c4, A5, n2, c5, A6, n3, c6⟩ ⟨k, n, next, sn, cs, ps⟩ W8 hin.out
      rw [← hR, ← hE] at hRM hmk
      clear hR hE
      refine hmk.mono ?_
      rintro e w9 ⟨rfl, hb9⟩
      have hz9 := hb9.size
      have e9 := e8.trans (hb9.mono (by omega))
      obtain ⟨⟨x0, x1, x2, x3, x4, x5⟩, ⟨y0, y1, y2, y3, y4, y5⟩, f9, -⟩ := two_cells e9
      go_wp2_with fail
      refine (hRM.out _ f9).mono ?_
      rintro e w10 ⟨rfl, hb10⟩
      have hz10 := hb10.size
      have e10 := e9.trans (hb10.mono (by omega))
      have bb : Below W8.heap.size W8 w10 := hb9.trans (hb10.mono (by omega))
      clear x0 x1 x2 x3 x4 x5 y0 y1 y2 y3 y4 y5
      obtain ⟨⟨x0, x1, x2, x3, x4, x5⟩, ⟨y0, y1, y2, y3, y4, y5⟩, f10, -⟩ := two_cells e10
      obtain ⟨z0, z1, z2, z3, z4, z5⟩ := (bx8.out.below bb).cells
      have hin10 := Lib.hid (hin.out.to bb)
      have hl3 : w.heap.size < w10.heap.size := by omega
      have hl4 : w.heap.size + 1 < w10.heap.size := by omega
      have hl5 : w2.heap.size < w10.heap.size := by omega
      have hq1 : Hid (∀ W : World, Below w10.heap.size w10 W → Calls Try.prog 17 #[stv k n next A4 n1 c4 A5 n2 c5 A6 n3 c6, stv k n next A1 n1 c1 A2 n2 c2 A3 n3 c3] W fun e w' => e = .returned (.bool true) ∧ Below W.heap.size W w') := fun W hb => by
        have := ref17_Same ⟨A4, n1, c4, A5, n2, c5, A6, n3, c6⟩ ⟨A1, n1, c1, A2, n2, c2, A3, n3, c3⟩ ⟨k, n, next, sn, cs, ps⟩ ⟨k, n, next, sn, cs, ps⟩ W (hin10.out.to hb) (hst.out.to (f10.trans (hb.mono (by omega))))
        rwa [sameSt_self] at this
      have hq2 : Hid (∀ W : World, Below w10.heap.size w10 W → Calls Try.prog 23 #[stv k n next A1 n1 c1 A2 n2 c2 A3 n3 c3, stv k n next A4 n1 c4 A5 n2 c5 A6 n3 c6] W fun e w' => e = .returned (.bool true) ∧ Below W.heap.size W w') := fun W hb => by
        have := root_Same ⟨A1, n1, c1, A2, n2, c2, A3, n3, c3⟩ ⟨A4, n1, c4, A5, n2, c5, A6, n3, c6⟩ ⟨k, n, next, sn, cs, ps⟩ ⟨k, n, next, sn, cs, ps⟩ W (hst.out.to (f10.trans (hb.mono (by omega)))) (hin10.out.to hb)
        rwa [sameSt_self] at this
      unfold stv at hq1 hq2
      obtain ⟨mb, hmb⟩ : ∃ x, x = mayState ⟨k, n, next, sn, cs, ps⟩ := ⟨_, rfl⟩
      obtain ⟨sb, hsb⟩ : ∃ x, x = sameSt ⟨k, n, next, sn, cs, ps⟩ ⟨k', n', next', sn', cs', ps'⟩ := ⟨_, rfl⟩
      rw [← hmb] at hM1 hM2
      rw [← hsb] at hS1 hS2
      have g1 : (R.toList == R.toList) = true := by simp
      have g2 : (E == E) = true := by simp
      have g3 : (mb == mb) = true := by simp
      have g4 : (sb == sb) = true := by simp
      clear hmb hsb
      go_wp2_with fail
      (refine wp_region_ext (w10.heap.size) (by kernel_rfl) (by kernel_rfl) ?_
       repeat (go_big_quiet_step ((first
              | (go_at_call 17; with_reducible refine Calls.ext (Nat.le_refl _) (hq1.out _ (Ext.below _)))
              | (go_at_call 21; with_reducible refine Calls.ext (Nat.le_refl _) (hM1.out _ (f10.trans ((Ext.below _).mono (by omega)))))
              | (go_at_call 22; with_reducible refine Calls.ext (Nat.le_refl _) (hM2.out _ (f10.trans ((Ext.below _).mono (by omega)))))
              | (go_at_call 23; with_reducible refine Calls.ext (Nat.le_refl _) (hS1.out _ (f10.trans ((Ext.below _).mono (by omega)))))
              | (go_at_call 17; with_reducible refine Calls.ext (Nat.le_refl _) (hS2.out _ (f10.trans ((Ext.below _).mono (by omega)))))
              | (go_at_call 23; with_reducible refine Calls.ext (Nat.le_refl _) (hq2.out _ (Ext.below _))))))
       refine wpQuiet_nil ?_
       intro wz hw'
       have hbwz := Ext.of hw'
       clear hw'
       obtain ⟨hcwz, hfwz⟩ := bcell hbwz; (try simp only [World.size_drew, World.cell?_drew, World.frozen?_drew, World.heap_drewN, World.cell?_drewN, World.frozen?_drewN] at hcwz hfwz); have hzwz := hbwz.size; (try simp at hzwz); (try have hlwz := (by omega : w.heap.size < wz.heap.size)); (try have hmwz := (by omega : w.heap.size + 1 < wz.heap.size)); (try have hnwz := (by omega : w.heap.size + 1 + 1 < wz.heap.size)))
      go_wp2_with fail
      go_ret
      exact ⟨rfl, f10.trans (hbwz.mono (by omega))⟩
    · rintro e w2 ⟨rfl, hb2⟩
      go_wp2_with fail
      go_ret
      exact ⟨rfl, f1.trans (hb2.mono (by omega))⟩
  · rintro e w1 ⟨rfl, hb1⟩
    go_wp2_with fail
    go_ret
    exact ⟨rfl, (by repeat (first | exact Below.refl _ _ | assumption | refine Below.drew ?_ | refine below_drewN ?_ _ | refine Below.alloc ?_ (by first | omega | (simp; try omega)) _ | refine Below.setCell ?_ (by first | omega | (simp; try omega)) _ | (refine Below.trans ?_ (Below.mono (by assumption) (by first | omega | (simp; try omega))))))⟩
end Go.Proofs.Ythbmbbbojpdlaaa
