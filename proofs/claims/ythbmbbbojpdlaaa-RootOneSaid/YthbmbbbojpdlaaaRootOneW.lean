/-
  The walk of RootOne.
-/
import Derived.Test.YthbmbbbojpdlaaaWorks23
import Derived.Test.YthbmbbbojpdlaaaSameB
import Derived.Test.YthbmbbbojpdlaaaLarge
namespace Go.Proofs.Ythbmbbbojpdlaaa
open Go.RowKit
attribute [local go_sem ↓] Go.wp_at_zero Go.wp_at_succ

set_option maxHeartbeats 2000000 in
theorem rootOne_walk (v v' : Rws) (s s' : St) (w : World) (h : StAt w w.heap.size v s) (h' : StAt w w.heap.size v' s') (hr : Reach v) (hr' : Reach v') :
    Calls Try.prog 5 #[v.val s, v'.val s'] w fun e w' => e = .returned (.bool true) ∧ Below w.heap.size w w' := by
  have hL := Lib.hid (law23_large v s · hr)
  have hL' := Lib.hid (law23_large v' s' · hr')
  have hM := Lib.hid (fun W (hb : Below w.heap.size w W) => root_Make v s W (h.to hb))
  have hM' := Lib.hid (fun W (hb : Below w.heap.size w W) => root_Make v' s' W (h'.to hb))
  have hY := Lib.hid (fun W (hb : Below w.heap.size w W) => root_May v s W (h.to hb))
  have hY' := Lib.hid (fun W (hb : Below w.heap.size w W) => root_May v' s' W (h'.to hb))
  have hS := Lib.hid (fun W (hb : Below w.heap.size w W) => root_Same v v' s s' W (h.to hb) (h'.to hb))
  obtain ⟨R, E, mb, hRE, hmb⟩ : ∃ R E mb, makeRes s = (R, E) ∧ mayState s = mb := ⟨_, _, _, rfl, rfl⟩
  obtain ⟨R', E', mb', hRE', hmb'⟩ : ∃ R E mb, makeRes s' = (R, E) ∧ mayState s' = mb := ⟨_, _, _, rfl, rfl⟩
  obtain ⟨sb, hsb⟩ : ∃ sb, sameSt s s' = sb := ⟨_, rfl⟩
  have hc : Hid ((mb = true → E = 0) ∧ (mb = false → E = 4)) := by
    refine ⟨fun e => ?_, fun e => ?_⟩ <;> (rw [e] at hmb; unfold makeRes at hRE; rw [hmb] at hRE; simp at hRE; exact hRE.2.symm)
  have hc' : Hid ((mb' = true → E' = 0) ∧ (mb' = false → E' = 4)) := by
    refine ⟨fun e => ?_, fun e => ?_⟩ <;> (rw [e] at hmb'; unfold makeRes at hRE'; rw [hmb'] at hRE'; simp at hRE'; exact hRE'.2.symm)
  have heq : Hid (mb = true → mb' = true → (R.toList == R'.toList) = sb) := fun e e' => by
    rw [e] at hmb
    rw [e'] at hmb'
    unfold makeRes at hRE hRE'
    rw [if_pos hmb] at hRE
    rw [if_pos hmb'] at hRE'
    simp only [Prod.mk.injEq] at hRE hRE'
    rw [← hsb, ← hRE.1, ← hRE'.1]
    by_cases hss : s = s'
    · rw [str_eq (by rw [hss])]
      simp [sameSt, hss]
    · rw [str_ne (fun e => hss (stB_inj hmb hmb' (by
        have := congrArg bl e
        rwa [bl_str, bl_str] at this)))]
      simp [sameSt, hss]
  rw [hRE] at hM
  rw [hRE'] at hM'
  rw [hmb] at hY
  rw [hmb'] at hY'
  rw [hsb] at hS
  clear hRE hRE' hmb hmb' hsb h h' hr hr'
  obtain ⟨k, n, next, sn, cs, ps⟩ := s
  obtain ⟨A1, n1, c1, A2, n2, c2, A3, n3, c3⟩ := v
  obtain ⟨k', n', next', sn', cs', ps'⟩ := s'
  obtain ⟨A1', n1', c1', A2', n2', c2', A3', n3', c3'⟩ := v'
  unfold Rws.val stv at hL hL' hM hM' hY hY' hS ⊢
  dsimp only at hL hL' hM hM' hY hY' hS ⊢
  go_enter Try.func5, Try.ntmps5
  go_wp2_with fail
  refine (law23_works _).mono ?_
  rintro e w1 ⟨rfl, hb1⟩
  have hz1 := hb1.size
  simp at hz1
  have e1 : Below (w.heap.size + 2) (twoBox w k n next A1 n1 c1 A2 n2 c2 A3 n3 c3 k' n' next' A1' n1' c1' A2' n2' c2' A3' n3' c3') w1 := hb1.mono (by simp)
  obtain ⟨⟨x0, x1, x2, x3, x4, x5⟩, ⟨y0, y1, y2, y3, y4, y5⟩, f1, -⟩ := two_cells e1
  go_wp2_with fail
  refine (hL.out _).mono ?_
  cases largeB ⟨A1, n1, c1, A2, n2, c2, A3, n3, c3⟩
  · rintro e w2 ⟨rfl, hb2⟩
    have hz2 := hb2.size
    have e2 := e1.trans (hb2.mono (by omega))
    clear x0 x1 x2 x3 x4 x5 y0 y1 y2 y3 y4 y5
    obtain ⟨⟨x0, x1, x2, x3, x4, x5⟩, ⟨y0, y1, y2, y3, y4, y5⟩, f2, -⟩ := two_cells e2
    go_wp2_with fail
    refine (hL'.out _).mono ?_
    cases largeB ⟨A1', n1', c1', A2', n2', c2', A3', n3', c3'⟩
    · rintro e w3 ⟨rfl, hb3⟩
      have hz3 := hb3.size
      have e3 := e2.trans (hb3.mono (by omega))
      clear x0 x1 x2 x3 x4 x5 y0 y1 y2 y3 y4 y5
      obtain ⟨⟨x0, x1, x2, x3, x4, x5⟩, ⟨y0, y1, y2, y3, y4, y5⟩, f3, -⟩ := two_cells e3
      go_wp2_with fail
      refine (hM.out _ f3).mono ?_
      rintro e w4 ⟨rfl, hb4⟩
      have hz4 := hb4.size
      have e4 := e3.trans (hb4.mono (by omega))
      clear x0 x1 x2 x3 x4 x5 y0 y1 y2 y3 y4 y5
      obtain ⟨⟨x0, x1, x2, x3, x4, x5⟩, ⟨y0, y1, y2, y3, y4, y5⟩, f4, -⟩ := two_cells e4
      go_wp2_with fail
      refine (hM'.out _ f4).mono ?_
      rintro e w5 ⟨rfl, hb5⟩
      have hz5 := hb5.size
      have e5 := e4.trans (hb5.mono (by omega))
      clear x0 x1 x2 x3 x4 x5 y0 y1 y2 y3 y4 y5
      obtain ⟨⟨x0, x1, x2, x3, x4, x5⟩, ⟨y0, y1, y2, y3, y4, y5⟩, f5, -⟩ := two_cells e5
      cases mb
      · obtain rfl := hc.out.2 rfl
        go_wp2_with fail
        refine (hY.out _ f5).mono ?_
        rintro e w6 ⟨rfl, hb6⟩
        have hz6 := hb6.size
        have e6 := e5.trans (hb6.mono (by omega))
        clear x0 x1 x2 x3 x4 x5 y0 y1 y2 y3 y4 y5
        obtain ⟨⟨x0, x1, x2, x3, x4, x5⟩, ⟨y0, y1, y2, y3, y4, y5⟩, f6, -⟩ := two_cells e6
        cases mb'
        · obtain rfl := hc'.out.2 rfl
          go_wp2_with fail
          refine (hY'.out _ f6).mono ?_
          rintro e w7 ⟨rfl, hb7⟩
          go_wp2_with fail
          go_ret
          exact ⟨rfl, f6.trans (hb7.mono (by omega))⟩
        · obtain rfl := hc'.out.1 rfl
          go_wp2_with fail
          refine (hY'.out _ f6).mono ?_
          rintro e w7 ⟨rfl, hb7⟩
          go_wp2_with fail
          go_ret
          exact ⟨rfl, f6.trans (hb7.mono (by omega))⟩
      · obtain rfl := hc.out.1 rfl
        cases mb'
        · obtain rfl := hc'.out.2 rfl
          go_wp2_with fail
          refine (hY.out _ f5).mono ?_
          rintro e w6 ⟨rfl, hb6⟩
          have hz6 := hb6.size
          have e6 := e5.trans (hb6.mono (by omega))
          clear x0 x1 x2 x3 x4 x5 y0 y1 y2 y3 y4 y5
          obtain ⟨⟨x0, x1, x2, x3, x4, x5⟩, ⟨y0, y1, y2, y3, y4, y5⟩, f6, -⟩ := two_cells e6
          go_wp2_with fail
          refine (hY'.out _ f6).mono ?_
          rintro e w7 ⟨rfl, hb7⟩
          go_wp2_with fail
          go_ret
          exact ⟨rfl, f6.trans (hb7.mono (by omega))⟩
        · obtain rfl := hc'.out.1 rfl
          have hq := heq.out rfl rfl
          have hss : (sb == sb) = true := by simp
          go_wp2_with fail
          refine (hS.out _ f5).mono ?_
          rintro e w6 ⟨rfl, hb6⟩
          go_wp2_with fail
          go_ret
          exact ⟨rfl, f5.trans (hb6.mono (by omega))⟩
    · rintro e w3 ⟨rfl, hb3⟩
      have hz3 := hb3.size
      go_wp2_with fail
      refine (law23_works _).mono ?_
      rintro e w4 ⟨rfl, hb4⟩
      go_wp2_with fail
      go_ret
      exact ⟨rfl, f2.trans ((hb3.trans (hb4.mono (by omega))).mono (by omega))⟩
  · rintro e w2 ⟨rfl, hb2⟩
    have hz2 := hb2.size
    go_wp2_with fail
    refine (law23_works _).mono ?_
    rintro e w3 ⟨rfl, hb3⟩
    go_wp2_with fail
    go_ret
    exact ⟨rfl, f1.trans ((hb2.trans (hb3.mono (by omega))).mono (by omega))⟩
end Go.Proofs.Ythbmbbbojpdlaaa
