/-
  The walk of IndexFinds.
-/
import Derived.Test.YthbmbbbojpdlaaaLargeI
import Derived.Test.YthbmbbbojpdlaaaIdxC
import Derived.Test.YthbmbbbojpdlaaaIdxPacksR
import Derived.Test.YthbmbbbojpdlaaaOfC
namespace Go.Proofs.Ythbmbbbojpdlaaa
open Go.RowKit
attribute [local go_sem ↓] Go.wp_at_zero Go.wp_at_succ

theorem eqlPlace (a b : Place) (w : World) : (binOp .eql 34 (.agg #[.string a.pack, .int .i64 a.at_, .int .i64 a.len]) (.agg #[.string b.pack, .int .i64 b.at_, .int .i64 b.len])).run Try.prog w
    = .ok (.bool (decide (a = b))) w := by
  have u2 := Try.underlying3
  have u9 := Try.underlying9
  have hS : Try.prog.underlying 34 = some (.struct (Try.prog.fieldsOf 34)) := by kernel_rfl
  have hp : Try.prog.stoodInHeld 34 = false := by kernel_rfl
  rw [run_eql_struct, show (10000 : Nat) = 9999 + 1 from rfl, run_equalIn_agg w 9999 _ _ _ hS hp]
  simp only [Program.fieldsOf, Try.underlying34]
  go_simp
  obtain ⟨i, t, r⟩ := a
  obtain ⟨i', t', r'⟩ := b
  have hr := bytes_eq i i'
  simp only [hr]
  by_cases h1 : i = i' <;> by_cases h2 : t = t' <;> by_cases h3 : r = r' <;> simp [h1, h2, h3]
theorem eqL_self {α : Type} [DecidableEq α] (l : List α) : eqL l l = true := by simp [eqL]

set_option maxHeartbeats 1000000 in
set_option maxRecDepth 100000 in
theorem indexFinds_walk (v : Rws) (s : St) (text : ByteArray) (w : World) (h : StAt w w.heap.size v s) (hr : ReachI v) :
    Calls Try.prog 9 #[v.val s, .string text] w fun e w' => e = .returned (.bool true) ∧ Below w.heap.size w w' := by
  have hL := Lib.hid (law17_large v s · hr)
  have hF1 := Lib.hid (fun W (hb : Below w.heap.size w W) => index_Find v s text W (h.to hb))
  have hF2 := Lib.hid (fun W (hb : Below w.heap.size w W) => ref17_Find v s text W (h.to hb))
  have hP1 := Lib.hid (fun W (hb : Below w.heap.size w W) => index_Packs v s W (h.to hb))
  have hP2 := Lib.hid (fun W (hb : Below w.heap.size w W) => ref17_Packs v s W (h.to hb))
  have hO1 := Lib.hid (fun W (hb : Below w.heap.size w W) => index_Of v s text W (h.to hb))
  have hO2 := Lib.hid (fun W (hb : Below w.heap.size w W) => ref17_Of v s text W (h.to hb))
  obtain ⟨⟨⟨fp, fa, fl⟩, fz⟩, hf⟩ : ∃ x, x = findP s text := ⟨_, rfl⟩
  rw [← hf] at hF1 hF2
  obtain ⟨⟨PL, pz⟩, hp⟩ : ∃ x, x = packsRes s := ⟨_, rfl⟩
  rw [← hp] at hP1 hP2
  clear hf hp
  obtain ⟨k, nn, next, sn, cs, ps⟩ := s
  obtain ⟨A1, n1, c1, A2, n2, c2, A3, n3, c3⟩ := v
  have hM1 := Lib.hid (fun W (hb : Below w.heap.size w W) => index_May k nn next A1 n1 c1 A2 n2 c2 A3 n3 c3 cs ps W (h.cs.to hb) (h.ps.to hb) h.ok)
  have hM2 := Lib.hid (fun W (hb : Below w.heap.size w W) => ref17_May k nn next A1 n1 c1 A2 n2 c2 A3 n3 c3 cs ps W (h.cs.to hb) (h.ps.to hb) h.ok)
  clear h hr
  obtain ⟨mb, hmb⟩ : ∃ mb, mb = mayIdx cs ps := ⟨_, rfl⟩
  rw [← hmb] at hM1 hM2
  unfold Rws.val stv at hF1 hF2 hP1 hP2 hO1 hO2 hL
  unfold Rws.val stv
  unfold stv at hM1 hM2
  dsimp only [Place.agg] at hF1 hF2 hP1 hP2 hO1 hO2 hL ⊢
  replace hmb := Lib.hid hmb
  go_enter Try.func9, Try.ntmps9
  go_wp2_with fail
  refine (hL.out _).mono ?_
  cases largeI ⟨A1, n1, c1, A2, n2, c2, A3, n3, c3⟩
  · rintro e w1 ⟨rfl, hb1⟩
    have hz1 := hb1.size
    simp at hz1
    have e1 : Below (w.heap.size + 1) (w.alloc (stBox k nn next A1 n1 c1 A2 n2 c2 A3 n3 c3)) w1 := hb1.mono (by simp)
    have f1 : Below w.heap.size w w1 := (Below.alloc (Below.refl _ _) (by omega) _).trans (e1.mono (by omega))
    clear hb1
    obtain ⟨x0, x1, x2, x3, x4, x5⟩ := stBox_cells e1
    go_wp2_with fail
    refine (hF1.out _ f1).mono ?_
    rintro e w2 ⟨rfl, hb2⟩
    have hz2 := hb2.size
    have e2 := e1.trans (hb2.mono (by omega))
    have f2 := f1.trans (hb2.mono (by omega))
    clear x0 x1 x2 x3 x4 x5
    obtain ⟨x0, x1, x2, x3, x4, x5⟩ := stBox_cells e2
    have hl2 : w.heap.size < w2.heap.size := by omega
    go_wp2_with fail
    refine (hF2.out _ (by repeat (first | exact Below.refl _ _ | assumption | refine Below.drew ?_ | refine below_drewN ?_ _ | refine Below.alloc ?_ (by first | omega | (simp; try omega)) _ | refine Below.setCell ?_ (by first | omega | (simp; try omega)) _ | (refine Below.trans ?_ (Below.mono (by assumption) (by first | omega | (simp; try omega))))))).mono ?_
    rintro e w3 ⟨rfl, hb3⟩
    have p3 := (PBox.new w2 ⟨fp, fa, fl⟩).below hb3
    have hz3 := hb3.size
    simp at hz3
    have e3 := (e2.alloc (by omega) (.cells #[.string fp, .int .i64 fa, .int .i64 fl] 34)).trans (hb3.mono (by simp; omega))
    have f3 := (f2.alloc (by omega) (.cells #[.string fp, .int .i64 fa, .int .i64 fl] 34)).trans (hb3.mono (by simp; omega))
    clear x0 x1 x2 x3 x4 x5 hb3
    obtain ⟨x0, x1, x2, x3, x4, x5⟩ := stBox_cells e3
    have hl3 : w.heap.size < w3.heap.size := by omega
    replace p3 := Lib.hid p3
    go_wp2_with fail
    refine (hP1.out _ (by repeat (first | exact Below.refl _ _ | assumption | refine Below.drew ?_ | refine below_drewN ?_ _ | refine Below.alloc ?_ (by first | omega | (simp; try omega)) _ | refine Below.setCell ?_ (by first | omega | (simp; try omega)) _ | (refine Below.trans ?_ (Below.mono (by assumption) (by first | omega | (simp; try omega))))))).mono ?_
    rintro e w4 ⟨u1, rfl, o1, hb4⟩
    have p4 := (p3.out.alloc (.cells #[.string fp, .int .i64 fa, .int .i64 fl] 34)).below hb4
    have pp4 := (PBox.new w3 ⟨fp, fa, fl⟩).below hb4
    have hz4 := hb4.size
    simp at hz4
    have e4 := (e3.alloc (by omega) (.cells #[.string fp, .int .i64 fa, .int .i64 fl] 34)).trans (hb4.mono (by simp; omega))
    have f4 := (f3.alloc (by omega) (.cells #[.string fp, .int .i64 fa, .int .i64 fl] 34)).trans (hb4.mono (by simp; omega))
    clear x0 x1 x2 x3 x4 x5 hb4
    obtain ⟨B1, q1, rfl⟩ := o1.form
    have r1 := o1.row strCell_len
    obtain ⟨x0, x1, x2, x3, x4, x5⟩ := stBox_cells e4
    replace o1 := Lib.hid o1
    replace p4 := Lib.hid p4
    replace pp4 := Lib.hid pp4
    go_wp2_with fail
    refine (hP2.out _ f4).mono ?_
    rintro e w5 ⟨u2, rfl, o2, hb5⟩
    have hz5 := hb5.size
    have e5 := e4.trans (hb5.mono (by omega))
    have f5 := f4.trans (hb5.mono (by omega))
    clear x0 x1 x2 x3 x4 x5
    obtain ⟨B2, q2, rfl⟩ := o2.form
    have r2 := o2.row strCell_len
    obtain ⟨x0, x1, x2, x3, x4, x5⟩ := stBox_cells e5
    replace o2 := Lib.hid o2
    go_wp2_with fail
    refine (hO1.out _ f5).mono ?_
    rintro e w6 ⟨u3, u4, D, P, z, rfl, hres1, o3, o4, hb6⟩
    have hz6 := hb6.size
    have e6 := e5.trans (hb6.mono (by omega))
    have f6 := f5.trans (hb6.mono (by omega))
    clear x0 x1 x2 x3 x4 x5
    obtain ⟨B3, q3, rfl⟩ := o3.form
    obtain ⟨B4, q4, rfl⟩ := o4.form
    have r3 := o3.row strCell_len
    have r4 := o4.row Place.cells_len
    obtain ⟨x0, x1, x2, x3, x4, x5⟩ := stBox_cells e6
    replace o3 := Lib.hid o3
    replace o4 := Lib.hid o4
    go_wp2_with fail
    refine (hO2.out _ f6).mono ?_
    rintro e w7 ⟨u5, u6, D', P', z', rfl, hres2, o5, o6, hb7⟩
    obtain ⟨rfl, rfl, rfl⟩ := hres1.unique hres2
    have hz7 := hb7.size
    have e7 := e6.trans (hb7.mono (by omega))
    have f7 := f6.trans (hb7.mono (by omega))
    clear x0 x1 x2 x3 x4 x5
    obtain ⟨B5, q5, rfl⟩ := o5.form
    obtain ⟨B6, q6, rfl⟩ := o6.form
    have r5 := o5.row strCell_len
    have r6 := o6.row Place.cells_len
    obtain ⟨x0, x1, x2, x3, x4, x5⟩ := stBox_cells e7
    have hl7 : w.heap.size < w7.heap.size := by omega
    have hl8 : w2.heap.size < w7.heap.size := by omega
    have hl9 : w3.heap.size < w7.heap.size := by omega
    obtain ⟨y0, y1, y2⟩ := (((p4.out.below hb5).below hb6).below hb7).cells
    obtain ⟨z0, z1, z2⟩ := (((pp4.out.below hb5).below hb6).below hb7).cells
    have hT1 : Hid (∀ W, Below w7.heap.size w7 W → Calls Try.prog 35 #[.slice B1 PL.length q1, .slice B2 PL.length q2] W fun e w' => e = .returned (.bool true) ∧ Below W.heap.size W w') := fun W hb => by
      have := law17_texts B1 B2 PL.length PL.length q1 q2 PL PL W ((((r1.to hb5).to hb6).to hb7).to hb) (((r2.to hb6).to hb7).to hb)
      rwa [eqL_self] at this
    have hT2 : Hid (∀ W, Below w7.heap.size w7 W → Calls Try.prog 35 #[.slice B3 D.length q3, .slice B5 D.length q5] W fun e w' => e = .returned (.bool true) ∧ Below W.heap.size W w') := fun W hb => by
      have := law17_texts B3 B5 D.length D.length q3 q5 D D W ((r3.to hb7).to hb) (r5.to hb)
      rwa [eqL_self] at this
    have hT3 : Hid (∀ W, Below w7.heap.size w7 W → Calls Try.prog 36 #[.slice B4 P.length q4, .slice B6 P.length q6] W fun e w' => e = .returned (.bool true) ∧ Below W.heap.size W w') := fun W hb => by
      have := law17_places B4 B6 P.length P.length q4 q6 P P W ((r4.to hb7).to hb) (r6.to hb)
      rwa [eqL_self] at this
    replace o5 := Lib.hid o5
    replace o6 := Lib.hid o6
    replace hres1 := Lib.hid hres1
    replace hres2 := Lib.hid hres2
    have ee := eqlPlace ⟨fp, fa, fl⟩ ⟨fp, fa, fl⟩
    rw [decide_eq_true rfl] at ee
    dsimp only at ee
    go_wp2_with fail
    (refine wp_region_ext (w7.heap.size) (by kernel_rfl) (by kernel_rfl) ?_
     repeat (go_big_quiet_step ((first
          | (go_at_call 35; with_reducible refine Calls.ext (Nat.le_refl _) (hT1.out _ (Ext.below _)))
          | (go_at_call 35; with_reducible refine Calls.ext (Nat.le_refl _) (hT2.out _ (Ext.below _)))
          | (go_at_call 36; with_reducible refine Calls.ext (Nat.le_refl _) (hT3.out _ (Ext.below _)))
          | (go_at_call 37; with_reducible refine Calls.ext (Nat.le_refl _) (hM1.out _ (f7.trans ((Ext.below _).mono (by omega)))))
          | (go_at_call 38; with_reducible refine Calls.ext (Nat.le_refl _) (hM2.out _ (f7.trans ((Ext.below _).mono (by omega))))))))
     refine wpQuiet_nil ?_
     intro wz hw'
     have hbwz := Ext.of hw'
     clear hw'
     obtain ⟨hcwz, hfwz⟩ := bcell hbwz; (try simp only [World.size_drew, World.cell?_drew, World.frozen?_drew, World.heap_drewN, World.cell?_drewN, World.frozen?_drewN] at hcwz hfwz); have hzwz := hbwz.size; (try simp at hzwz); (try have hlwz := (by omega : w.heap.size < wz.heap.size)); (try have hmwz := (by omega : w.heap.size + 1 < wz.heap.size)); (try have hnwz := (by omega : w.heap.size + 1 + 1 < wz.heap.size)))
    go_wp2_with fail
    go_ret
    exact ⟨by simp, f7.trans (Below.mono (by assumption) (by omega))⟩
  · rintro e w1 ⟨rfl, hb1⟩
    have hz1 := hb1.size
    simp at hz1
    go_wp2_with fail
    go_ret
    exact ⟨rfl, (Below.alloc (Below.refl _ _) (by omega) _).trans (hb1.mono (by simp))⟩
end Go.Proofs.Ythbmbbbojpdlaaa
