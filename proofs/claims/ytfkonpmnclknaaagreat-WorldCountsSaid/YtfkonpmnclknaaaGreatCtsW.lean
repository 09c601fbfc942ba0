/-
  The walk of WorldCounts.
-/
import Derived.Test.YtfkonpmnclknaaaGreatWldP
import Derived.Test.YtfkonpmnclknaaaGreatUint
namespace Go.Proofs.YtfkonpmnclknaaaGreat
open Go.RowKit
attribute [local go_sem ↓] Go.wp_at_zero Go.wp_at_succ

/-- A call, kind 0 to 4, of one of the stores: it is counted. -/
theorem step_tick {m : Wld} {a : Stepx} (hk0 : 0 ≤ a.kind) (hk : a.kind ≤ 4) (h : m.has a.i = true) : (m.step a).calls = m.tick.calls ∧ (m.step a).dark = m.tick.dark ∧ (m.step a).left = m.tick.left := by
  have key : ∀ g, (m.go a.i g).calls = m.tick.calls ∧ (m.go a.i g).dark = m.tick.dark ∧ (m.go a.i g).left = m.tick.left := fun g => by
    unfold Wld.go
    rw [if_pos h]
    split
    · exact ⟨rfl, rfl, rfl⟩
    · split <;> exact ⟨rfl, rfl, rfl⟩
  unfold Wld.step
  by_cases e0 : a.kind = 0
  · rw [if_pos e0]; exact key _
  rw [if_neg e0]
  by_cases e1 : a.kind = 1
  · rw [if_pos e1]; exact key _
  rw [if_neg e1]
  by_cases e2 : a.kind = 2
  · rw [if_pos e2]; exact key _
  rw [if_neg e2]
  by_cases e3 : a.kind = 3
  · rw [if_pos e3]; exact key _
  rw [if_neg e3, if_pos (by omega)]
  exact key _
theorem cut_pos {m : Wld} (a : Nat) : m.cut a = ({ m with left := (a : Int) }, 0) := by unfold Wld.cut; rw [if_neg (by omega)]
theorem crash_dark (m : Wld) (ks : List (List Int)) : (m.crash ks).dark = false := rfl
/-- What is left to count, behind so many calls. -/
def Left (k d : Nat) (m : Wld) : Prop := m.dark = decide (k < d) ∧ m.left = if k < d then 0 else ((k - d : Nat) : Int)
theorem Left.tick {k d : Nat} {m : Wld} (h : Left k d m) : Left k (d + 1) m.tick := by
  obtain ⟨h1, h2⟩ := h
  unfold Left Wld.tick
  dsimp only
  rw [h1, h2]
  rcases Nat.lt_trichotomy k d with g | g | g
  · simp [g, Nat.lt_succ_of_lt g]
  · subst g
    simp
  · have e1 : ¬ k < d := by omega
    have e2 : ¬ k < d + 1 := by omega
    have e3 : ¬ ((k - d : Nat) : Int) = 0 := by omega
    have e4 : (0 : Int) < ((k - d : Nat) : Int) := by omega
    rw [if_neg e1, if_neg e2, if_neg (by simp [e1]; omega), if_pos e4]
    constructor
    · simp [e1, e2]; omega
    · omega
theorem Left.step {k d : Nat} {m : Wld} {a : Stepx} (h : Left k d m) (hk0 : 0 ≤ a.kind) (hk : a.kind ≤ 4) (hh : m.has a.i = true) : Left k (d + 1) (m.step a) := by
  obtain ⟨_, h2, h3⟩ := step_tick hk0 hk hh
  obtain ⟨k1, k2⟩ := h.tick
  exact ⟨h2.trans k1, h3.trans k2⟩

set_option maxHeartbeats 8000000 in
set_option maxRecDepth 100000 in
theorem worldCounts_walk (A : Option Addr) (n c : Nat) (l : List Stepx) (A2 : Option Addr) (n2 c2 : Nat) (l2 : List Stepx) (k : Int) (hk : -9223372036854775808 ≤ k ∧ k ≤ 9223372036854775807) (w : World) (h : StepsAt w w.heap.size A n l ∧ (∀ a ∈ l, StepIn w w.heap.size a)) (h2 : StepsAt w w.heap.size A2 n2 l2 ∧ (∀ a ∈ l2, StepIn w w.heap.size a)) :
    Calls Tryz.prog 4 #[.slice A n c, .slice A2 n2 c2, .int .i64 k] w fun e w' => e = .returned (.bool true) ∧ Below w.heap.size w w' := by
  have hl := Lib.hid h.1.1
  have hl2 := Lib.hid h2.1.1
  obtain ⟨u, a, ha, hw1, hw2, hw3, hw4, hw5⟩ := uint_vals k (m := 20) (by omega) (by omega) hk
  replace hw3 : Value.int .u64 ((u : Int).tmod 20) = Value.int .u64 a := hw3
  clear hw2
  go_enter Tryz.func4, Tryz.ntmps4
  go_wp2_with fail
  (refine (law08_long A n c l _ (h).1 (h).2).mono ?_
   rintro e wz ⟨he, hw⟩
   obtain rfl := hw.symm
   rcases he with ⟨rfl, hsh⟩ | rfl
   case inr =>
     go_wp2_with fail
     refine (law08_awake _).mono ?_
     rintro e wa ⟨rfl, ba⟩
     go_wp2_with fail
     go_ret
     exact ⟨rfl, ba⟩
   replace hsh := Lib.hid hsh
   go_wp2_with fail)
  (refine (law08_long A2 n2 c2 l2 _ (h2).1 (h2).2).mono ?_
   rintro e wz ⟨he, hw⟩
   obtain rfl := hw.symm
   rcases he with ⟨rfl, hsh2⟩ | rfl
   case inr =>
     go_wp2_with fail
     refine (law08_awake _).mono ?_
     rintro e wa ⟨rfl, ba⟩
     go_wp2_with fail
     go_ret
     exact ⟨rfl, ba⟩
   replace hsh2 := Lib.hid hsh2
   go_wp2_with fail)
  have hn9 : n ≤ 60 := by have := hsh.out.1; have := hl.out; omega
  have hn29 : n2 ≤ 60 := by have := hsh2.out.1; have := hl2.out; omega
  (refine (law08_awake w).mono ?_
   rintro e w1 ⟨rfl, y1⟩
   go_wp2_with fail
   refine (world_New 3 (by decide) (by decide) w1).mono ?_
   rintro e w2 ⟨rfl, X2, p2, lo2, y2⟩
   generalize hb9 : w1.heap.size = b at p2 ⊢
   replace hb9 := Lib.hid hb9
   go_wp2_with fail
   refine (ref08_New 3 (by decide) (by decide) w2).mono ?_
   rintro e w3 ⟨c9, Y3, rfl, p3, lo3, y3⟩
   have hP := Both.new y1 y1.size p2 lo2 y2 p3 lo3 y3
   clear p2 lo2 y2 p3 lo3 y3
   go_wp2_with fail)
  (go_loopw [11] (fun ti wr => ∃ (j : Nat) (m : Wld), j ≤ n ∧ ti = .int .i64 j ∧ Both w.heap.size w wr b j c9 m m) (fun ti _ => n - (intOf ti).toNat)
   case atStart => exact ⟨0, _, Nat.zero_le _, rfl, hP⟩
   obtain ⟨j, m, hj, rfl, hP⟩ := hrel
   obtain ⟨wp, rfl⟩ : ∃ x : World, x = wr := ⟨_, rfl⟩
   rcases Nat.lt_or_ge j n with hlt | hge
   case inl =>
     obtain ⟨b0, off, x, rfl, hb0, hx, q0, q1, q2, q3, q4, q5, q6, q7, q8, q9⟩ := ((h).1.below hP.bel).stp hlt
     have hxs := (hsh).out.2 x (List.mem_of_getElem? hx)
     have hD := hP.do_ (Nat.le_refl _) (((h).2 x (List.mem_of_getElem? hx)).below hP.bel |>.ok hxs.1 hxs.2.1) (by omega)
     unfold Stepx.agg at hD
     replace hD := Lib.hid hD
     replace hP := Lib.hid hP
     replace hx := Lib.hid hx
     clear hxs
     go_wp2_with fail
     refine hD.out.mono ?_
     rintro e w7 ⟨R, rfl, _, p7⟩
     replace p7 := Lib.hid p7
     clear hD hP
     go_wp2_with fail
     go_roundw
     case rel => exact ⟨j + 1, _, by omega, by go_num, p7.out⟩
     case measure => simp [intOf]; omega
   obtain rfl : j = n := by omega
   clear hj hge)
  have hcm := hP.cm
  have hcr := Lib.hid fun ks : List Surv => crash_dark m (ks.map Surv.keep)
  have hDk := hP.dark
  by_cases hd : m.dark = true
  · rw [hd] at hDk
    replace hP := Lib.hid hP
    go_wp2_with fail
    refine hDk.mono ?_
    rintro e wz ⟨rfl, rfl⟩
    clear hDk
    go_wp2_with fail
    refine (hP.out.crash (Nat.le_refl _) none 0 0 [] RowAt.none_ (by simp)).mono ?_
    rintro e w4 ⟨rfl, hP4⟩
    go_wp2_with fail
    refine (hP4.crashx (Nat.le_refl _) none 0 0 [] RowAt.none_ (by simp)).mono ?_
    rintro e w5 ⟨rfl, hP5⟩
    have hd5 := hcr.out []
    have hc5 : (m.crash (List.map Surv.keep [])).calls ≤ j := hcm
    clear hP hP4 hcr hd hcm
    generalize m.crash (List.map Surv.keep []) = m5 at hP5 hd5 hc5
    (have hCl := (hP5).calls
     have hCt := (hP5).cut (Nat.le_refl _) (a : Int) (by omega)
     rw [cut_pos (m := m5) a] at hCt
     dsimp only at hCt
     replace hP5 := Lib.hid hP5
     go_wp2_with fail
     refine hCl.mono ?_
     rintro e wz ⟨rfl, rfl⟩
     go_wp2_with fail
     refine hCt.mono ?_
     rintro e w6 ⟨rfl, hP6⟩
     clear hCl hCt hP5
     have hCx := hP6.cutx (Nat.le_refl _) (a : Int) (by omega)
     rw [cut_pos (m := m5) a] at hCx
     dsimp only at hCx
     replace hP6 := Lib.hid hP6
     go_wp2_with fail
     refine hCx.mono ?_
     rintro e w7 ⟨rfl, hP7⟩
     clear hP6 hCx
     have hL7 : Left a 0 { m5 with left := (a : Int) } := ⟨by simpa using hd5, by simp⟩
     have hc7 : ({ m5 with left := (a : Int) } : Wld).calls = (m5).calls + 0 := rfl
     generalize { m5 with left := (a : Int) } = m7 at hP7 hL7 hc7
     generalize (m5).calls = F at hc7 hc5 ⊢
     clear hw1 hw3 hw4 hw5
     go_wp2_with fail
     go_loopw [14, 15, 16] (fun td ti _ wr => ∃ (i d : Nat) (m : Wld), i ≤ n2 ∧ td = .int .i64 d ∧ ti = .int .i64 i ∧ d ≤ i ∧ Both w.heap.size w wr b (j + i) c9 m m ∧ m.calls = F + d ∧ Hid (Left a d m)) (fun _ ti _ _ => n2 - (intOf ti).toNat)
     case atStart => exact ⟨0, 0, _, Nat.zero_le _, rfl, rfl, Nat.le_refl _, hP7, hc7, hL7⟩
     case round =>
       clear hP7 hc7 hL7
       obtain ⟨i, d, mm, hi, rfl, rfl, hdi, hP, hcs, hL⟩ := hrel
       obtain ⟨wp, rfl⟩ : ∃ x : World, x = wr := ⟨_, rfl⟩
       by_cases hlt : i < n2
       · obtain ⟨b0, off, x, rfl, hb0, hx, q0, q1, q2, q3, q4, q5, q6, q7, q8, q9⟩ := (h2.1.below hP.bel).stp hlt
         have hxs := hsh2.out.2 x (List.mem_of_getElem? hx)
         have hkd := (h2.2 x (List.mem_of_getElem? hx)).kind
         have hib := (h2.2 x (List.mem_of_getElem? hx)).ib
         obtain ⟨u, z, hz, hw1, hw2, hw3, hw4, hw5⟩ := uint_vals x.i (m := 3) (by omega) (by omega) hib
         replace hw3 : Value.int .u64 ((u : Int).tmod 3) = Value.int .u64 z := hw3
         clear hw2
         replace hP := Lib.hid hP
         replace hx := Lib.hid hx
         by_cases hk4 : 4 < x.kind
         · go_wp2_with fail
           go_roundw
           case rel => exact ⟨i + 1, d, mm, by omega, by trivial, by go_num, by omega, (hP.out.below (Nat.le_refl _) (by repeat (first | exact Below.refl _ _ | assumption | refine Below.drew ?_ | refine below_drewN ?_ _ | refine Below.alloc ?_ (by first | omega | (simp; try omega)) _ | refine Below.setCell ?_ (by first | omega | (simp; try omega)) _ | (refine Below.trans ?_ (Below.mono (by assumption) (by first | omega | (simp; try omega))))))).more (by omega) (by omega), hcs, hL⟩
           case measure => simp [intOf]; omega
         · have hy : StepIn wp w.heap.size { x with i := (z : Int) } := { ((h2.2 x (List.mem_of_getElem? hx.out)).below hP.out.bel) with ib := by dsimp only; omega }
           have hD := Lib.hid fun W (hW : Below wp.heap.size wp W) => (hP.out.below (Nat.le_refl _) hW).do_ (Nat.le_refl _) ((hy.ok hxs.1 hxs.2.1).below (hW.mono hP.out.bel.size)) (by omega)
           unfold Stepx.agg at hD
           dsimp only at hD
           have hstp : Hid (∀ p7 : Both w.heap.size w wp b (j + i) c9 mm mm, (mm.step { x with i := (z : Int) }).calls = F + (d + 1) ∧ Left a (d + 1) (mm.step { x with i := (z : Int) }) ∧ (mm.step { x with i := (z : Int) }).dark = decide ((a : Int) < (d : Int) + 1)) := by
             unfold Hid
             intro p7
             have hh : mm.has (z : Int) = true := by unfold Wld.has; rw [p7.three.1]; simp; omega
             have k1 := step_tick (m := mm) (a := { x with i := (z : Int) }) hkd.1 (by dsimp only; omega) hh
             have k2 := Left.step (a := { x with i := (z : Int) }) hL.out hkd.1 (by dsimp only; omega) hh
             exact ⟨by rw [k1.1]; show mm.calls + 1 = _; omega, k2, k2.1.trans (decide_eq_decide.2 (by omega))⟩
           obtain ⟨s1, s2, s3⟩ := hstp.out hP.out
           replace s2 := Lib.hid s2
           have x9 := fun k => newCell wp #[.int .u8 x.kind, .int .i64 x.i, .string x.name, .string x.data, .slice x.A x.n x.c, .int .u8 x.f.kind, .int .i64 x.f.store, .int .i64 x.f.n, .int .i64 x.f.at_, .int .i64 x.f.c] 41 (0, 0) k
           have n0 := x9 0
           have n1 := x9 1
           have n2' := x9 2
           have n3 := x9 3
           have n4 := x9 4
           have n5 := x9 5
           have n6 := x9 6
           have n7 := x9 7
           have n8 := x9 8
           have n9 := x9 9
           simp at n0 n1 n2' n3 n4 n5 n6 n7 n8 n9
           clear x9 hstp hy hL
           go_wp2_with fail
           refine (hD.out _ (by repeat (first | exact Below.refl _ _ | assumption | refine Below.drew ?_ | refine below_drewN ?_ _ | refine Below.alloc ?_ (by first | omega | (simp; try omega)) _ | refine Below.setCell ?_ (by first | omega | (simp; try omega)) _ | (refine Below.trans ?_ (Below.mono (by assumption) (by first | omega | (simp; try omega))))))).mono ?_
           rintro e w8 ⟨R, rfl, _, p8⟩
           clear hD hP
           generalize mm.step { x with i := (z : Int) } = m8 at p8 s1 s2 s3
           have hCl := p8.calls
           have hDk := p8.dark
           rw [s1] at hCl
           rw [s3] at hDk
           have hne : (decide ((a : Int) < (d : Int) + 1) != decide ((a : Int) < (d : Int) + 1)) = false := by simp
           replace p8 := Lib.hid p8
           replace s3 := Lib.hid s3
           go_wp2_with fail
           refine hCl.mono ?_
           rintro e wz ⟨rfl, rfl⟩
           go_wp2_with fail
           refine hDk.mono ?_
           rintro e wz ⟨rfl, rfl⟩
           clear hCl hDk
           go_wp2_with fail
           go_roundw
           case rel => exact ⟨i + 1, d + 1, m8, by omega, by go_num, by go_num, by omega, p8.out, s1, s2⟩
           case measure => simp [intOf]; omega
       · obtain rfl : i = n2 := by omega
         have hbe := hP.bel
         clear hP hL
         go_wp2_with fail
         go_ret
         exact ⟨rfl, hbe⟩)
  · replace hd : m.dark = false := by simpa using hd
    rw [hd] at hDk
    replace hP := Lib.hid hP
    go_wp2_with fail
    refine hDk.mono ?_
    rintro e wz ⟨rfl, rfl⟩
    clear hDk hcr
    have hP5 := hP.out
    clear hP
    (have hCl := (hP5).calls
     have hCt := (hP5).cut (Nat.le_refl _) (a : Int) (by omega)
     rw [cut_pos (m := m) a] at hCt
     dsimp only at hCt
     replace hP5 := Lib.hid hP5
     go_wp2_with fail
     refine hCl.mono ?_
     rintro e wz ⟨rfl, rfl⟩
     go_wp2_with fail
     refine hCt.mono ?_
     rintro e w6 ⟨rfl, hP6⟩
     clear hCl hCt hP5
     have hCx := hP6.cutx (Nat.le_refl _) (a : Int) (by omega)
     rw [cut_pos (m := m) a] at hCx
     dsimp only at hCx
     replace hP6 := Lib.hid hP6
     go_wp2_with fail
     refine hCx.mono ?_
     rintro e w7 ⟨rfl, hP7⟩
     clear hP6 hCx
     have hL7 : Left a 0 { m with left := (a : Int) } := ⟨by simpa using hd, by simp⟩
     have hc7 : ({ m with left := (a : Int) } : Wld).calls = (m).calls + 0 := rfl
     generalize { m with left := (a : Int) } = m7 at hP7 hL7 hc7
     generalize (m).calls = F at hc7 hcm ⊢
     clear hw1 hw3 hw4 hw5
     go_wp2_with fail
     go_loopw [14, 15, 16] (fun td ti _ wr => ∃ (i d : Nat) (m : Wld), i ≤ n2 ∧ td = .int .i64 d ∧ ti = .int .i64 i ∧ d ≤ i ∧ Both w.heap.size w wr b (j + i) c9 m m ∧ m.calls = F + d ∧ Hid (Left a d m)) (fun _ ti _ _ => n2 - (intOf ti).toNat)
     case atStart => exact ⟨0, 0, _, Nat.zero_le _, rfl, rfl, Nat.le_refl _, hP7, hc7, hL7⟩
     case round =>
       clear hP7 hc7 hL7
       obtain ⟨i, d, mm, hi, rfl, rfl, hdi, hP, hcs, hL⟩ := hrel
       obtain ⟨wp, rfl⟩ : ∃ x : World, x = wr := ⟨_, rfl⟩
       by_cases hlt : i < n2
       · obtain ⟨b0, off, x, rfl, hb0, hx, q0, q1, q2, q3, q4, q5, q6, q7, q8, q9⟩ := (h2.1.below hP.bel).stp hlt
         have hxs := hsh2.out.2 x (List.mem_of_getElem? hx)
         have hkd := (h2.2 x (List.mem_of_getElem? hx)).kind
         have hib := (h2.2 x (List.mem_of_getElem? hx)).ib
         obtain ⟨u, z, hz, hw1, hw2, hw3, hw4, hw5⟩ := uint_vals x.i (m := 3) (by omega) (by omega) hib
         replace hw3 : Value.int .u64 ((u : Int).tmod 3) = Value.int .u64 z := hw3
         clear hw2
         replace hP := Lib.hid hP
         replace hx := Lib.hid hx
         by_cases hk4 : 4 < x.kind
         · go_wp2_with fail
           go_roundw
           case rel => exact ⟨i + 1, d, mm, by omega, by trivial, by go_num, by omega, (hP.out.below (Nat.le_refl _) (by repeat (first | exact Below.refl _ _ | assumption | refine Below.drew ?_ | refine below_drewN ?_ _ | refine Below.alloc ?_ (by first | omega | (simp; try omega)) _ | refine Below.setCell ?_ (by first | omega | (simp; try omega)) _ | (refine Below.trans ?_ (Below.mono (by assumption) (by first | omega | (simp; try omega))))))).more (by omega) (by omega), hcs, hL⟩
           case measure => simp [intOf]; omega
         · have hy : StepIn wp w.heap.size { x with i := (z : Int) } := { ((h2.2 x (List.mem_of_getElem? hx.out)).below hP.out.bel) with ib := by dsimp only; omega }
           have hD := Lib.hid fun W (hW : Below wp.heap.size wp W) => (hP.out.below (Nat.le_refl _) hW).do_ (Nat.le_refl _) ((hy.ok hxs.1 hxs.2.1).below (hW.mono hP.out.bel.size)) (by omega)
           unfold Stepx.agg at hD
           dsimp only at hD
           have hstp : Hid (∀ p7 : Both w.heap.size w wp b (j + i) c9 mm mm, (mm.step { x with i := (z : Int) }).calls = F + (d + 1) ∧ Left a (d + 1) (mm.step { x with i := (z : Int) }) ∧ (mm.step { x with i := (z : Int) }).dark = decide ((a : Int) < (d : Int) + 1)) := by
             unfold Hid
             intro p7
             have hh : mm.has (z : Int) = true := by unfold Wld.has; rw [p7.three.1]; simp; omega
             have k1 := step_tick (m := mm) (a := { x with i := (z : Int) }) hkd.1 (by dsimp only; omega) hh
             have k2 := Left.step (a := { x with i := (z : Int) }) hL.out hkd.1 (by dsimp only; omega) hh
             exact ⟨by rw [k1.1]; show mm.calls + 1 = _; omega, k2, k2.1.trans (decide_eq_decide.2 (by omega))⟩
           obtain ⟨s1, s2, s3⟩ := hstp.out hP.out
           replace s2 := Lib.hid s2
           have x9 := fun k => newCell wp #[.int .u8 x.kind, .int .i64 x.i, .string x.name, .string x.data, .slice x.A x.n x.c, .int .u8 x.f.kind, .int .i64 x.f.store, .int .i64 x.f.n, .int .i64 x.f.at_, .int .i64 x.f.c] 41 (0, 0) k
           have n0 := x9 0
           have n1 := x9 1
           have n2' := x9 2
           have n3 := x9 3
           have n4 := x9 4
           have n5 := x9 5
           have n6 := x9 6
           have n7 := x9 7
           have n8 := x9 8
           have n9 := x9 9
           simp at n0 n1 n2' n3 n4 n5 n6 n7 n8 n9
           clear x9 hstp hy hL
           go_wp2_with fail
           refine (hD.out _ (by repeat (first | exact Below.refl _ _ | assumption | refine Below.drew ?_ | refine below_drewN ?_ _ | refine Below.alloc ?_ (by first | omega | (simp; try omega)) _ | refine Below.setCell ?_ (by first | omega | (simp; try omega)) _ | (refine Below.trans ?_ (Below.mono (by assumption) (by first | omega | (simp; try omega))))))).mono ?_
           rintro e w8 ⟨R, rfl, _, p8⟩
           clear hD hP
           generalize mm.step { x with i := (z : Int) } = m8 at p8 s1 s2 s3
           have hCl := p8.calls
           have hDk := p8.dark
           rw [s1] at hCl
           rw [s3] at hDk
           have hne : (decide ((a : Int) < (d : Int) + 1) != decide ((a : Int) < (d : Int) + 1)) = false := by simp
           replace p8 := Lib.hid p8
           replace s3 := Lib.hid s3
           go_wp2_with fail
           refine hCl.mono ?_
           rintro e wz ⟨rfl, rfl⟩
           go_wp2_with fail
           refine hDk.mono ?_
           rintro e wz ⟨rfl, rfl⟩
           clear hCl hDk
           go_wp2_with fail
           go_roundw
           case rel => exact ⟨i + 1, d + 1, m8, by omega, by go_num, by go_num, by omega, p8.out, s1, s2⟩
           case measure => simp [intOf]; omega
       · obtain rfl : i = n2 := by omega
         have hbe := hP.bel
         clear hP hL
         go_wp2_with fail
         go_ret
         exact ⟨rfl, hbe⟩)
end Go.Proofs.YtfkonpmnclknaaaGreat
