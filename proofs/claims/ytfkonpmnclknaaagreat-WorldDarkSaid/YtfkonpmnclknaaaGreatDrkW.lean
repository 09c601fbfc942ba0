/-
  The walk of WorldDark.
-/
import Derived.Test.YtfkonpmnclknaaaGreatWldQ
import Derived.Test.YtfkonpmnclknaaaGreatUint
namespace Go.Proofs.YtfkonpmnclknaaaGreat
open Go.RowKit
attribute [local go_sem ↓] Go.wp_at_zero Go.wp_at_succ

theorem tick_dark {m : Wld} (h : m.dark = true ∨ m.left = 0) : m.tick.dark = true := by
  unfold Wld.tick
  rcases h with h | h <;> simp [h]

set_option maxHeartbeats 8000000 in
set_option maxRecDepth 100000 in
theorem worldDark_walk (A : Option Addr) (n c : Nat) (l : List Stepx) (A2 : Option Addr) (n2 c2 : Nat) (l2 : List Stepx) (w : World) (h : StepsAt w w.heap.size A n l ∧ (∀ a ∈ l, StepIn w w.heap.size a)) (h2 : StepsAt w w.heap.size A2 n2 l2 ∧ (∀ a ∈ l2, StepIn w w.heap.size a)) :
    Calls Tryz.prog 7 #[.slice A n c, .slice A2 n2 c2] w fun e w' => e = .returned (.bool true) ∧ Below w.heap.size w w' := by
  have hl := Lib.hid h.1.1
  have hl2 := Lib.hid h2.1.1
  go_enter Tryz.func7, Tryz.ntmps7
  go_wp2_with fail
  (refine (law08_long A n c l _ (h).1 (h).2).mono ?_
   rintro e wz ⟨he, hw⟩
   obtain rfl := hw.symm
   rcases he with ⟨rfl, hsh⟩ | rfl
   case inr =>
     go_wp2_with fail
     refine (law08_awake _).mono ?_
     rintro e wa ⟨rfl, ba⟩
     go_wp2_with fail
     go_ret
     exact ⟨rfl, ba⟩
   replace hsh := Lib.hid hsh
   go_wp2_with fail)
  (refine (law08_long A2 n2 c2 l2 _ (h2).1 (h2).2).mono ?_
   rintro e wz ⟨he, hw⟩
   obtain rfl := hw.symm
   rcases he with ⟨rfl, hsh2⟩ | rfl
   case inr =>
     go_wp2_with fail
     refine (law08_awake _).mono ?_
     rintro e wa ⟨rfl, ba⟩
     go_wp2_with fail
     go_ret
     exact ⟨rfl, ba⟩
   replace hsh2 := Lib.hid hsh2
   go_wp2_with fail)
  have hn9 : n ≤ 60 := by have := hsh.out.1; have := hl.out; omega
  have hn29 : n2 ≤ 60 := by have := hsh2.out.1; have := hl2.out; omega
  (refine (law08_awake w).mono ?_
   rintro e w1 ⟨rfl, y1⟩
   go_wp2_with fail
   refine (world_New 3 (by decide) (by decide) w1).mono ?_
   rintro e w2 ⟨rfl, X2, p2, lo2, y2⟩
   generalize hb9 : w1.heap.size = b at p2 ⊢
   replace hb9 := Lib.hid hb9
   go_wp2_with fail
   refine (ref08_New 3 (by decide) (by decide) w2).mono ?_
   rintro e w3 ⟨c9, Y3, rfl, p3, lo3, y3⟩
   have hP := Both.new y1 y1.size p2 lo2 y2 p3 lo3 y3
   clear p2 lo2 y2 p3 lo3 y3
   go_wp2_with fail)
  (go_loopw [9] (fun ti wr => ∃ (j : Nat) (m : Wld), j ≤ n ∧ ti = .int .i64 j ∧ Both w.heap.size w wr b j c9 m m) (fun ti _ => n - (intOf ti).toNat)
   case atStart => exact ⟨0, _, Nat.zero_le _, rfl, hP⟩
   obtain ⟨j, m, hj, rfl, hP⟩ := hrel
   obtain ⟨wp, rfl⟩ : ∃ x : World, x = wr := ⟨_, rfl⟩
   rcases Nat.lt_or_ge j n with hlt | hge
   case inl =>
     obtain ⟨b0, off, x, rfl, hb0, hx, q0, q1, q2, q3, q4, q5, q6, q7, q8, q9⟩ := ((h).1.below hP.bel).stp hlt
     have hxs := (hsh).out.2 x (List.mem_of_getElem? hx)
     have hD := hP.do_ (Nat.le_refl _) (((h).2 x (List.mem_of_getElem? hx)).below hP.bel |>.ok hxs.1 hxs.2.1) (by omega)
     unfold Stepx.agg at hD
     replace hD := Lib.hid hD
     replace hP := Lib.hid hP
     replace hx := Lib.hid hx
     clear hxs
     go_wp2_with fail
     refine hD.out.mono ?_
     rintro e w7 ⟨R, rfl, _, p7⟩
     replace p7 := Lib.hid p7
     clear hD hP
     go_wp2_with fail
     go_roundw
     case rel => exact ⟨j + 1, _, by omega, by go_num, p7.out⟩
     case measure => simp [intOf]; omega
   obtain rfl : j = n := by omega
   clear hj hge)
  have hC := hP.cut (Nat.le_refl _) 0 (by omega)
  replace hP := Lib.hid hP
  have hr : m.cut 0 = ({ m with left := 0 }, 0) := rfl
  rw [hr] at hC
  dsimp only at hC
  clear hr
  go_wp2_with fail
  refine hC.mono ?_
  rintro e w4 ⟨rfl, p4⟩
  clear hC hP
  have hl4 : ({ m with left := 0 } : Wld).dark = true ∨ ({ m with left := 0 } : Wld).left = 0 := .inr rfl
  generalize ({ m with left := 0 } : Wld) = m4 at p4 hl4
  have hC := p4.calls
  replace p4 := Lib.hid p4
  replace hl4 := Lib.hid hl4
  go_wp2_with fail
  refine hC.mono ?_
  rintro e wt ⟨rfl, rfl⟩
  clear hC
  go_wp2_with fail
  go_loopw [10, 11, 12, 13] (fun tn ti _ _ wr => ∃ (i C : Nat) (mm xx : Wld), i ≤ n2 ∧ tn = .int .i64 C ∧ mm.calls = C ∧ ti = .int .i64 i ∧ Both w.heap.size w wr b (j + 2 * i) c9 mm xx ∧ Hid (mm.dark = true ∨ mm.left = 0)) (fun _ ti _ _ _ => n2 - (intOf ti).toNat)
  case atStart => exact ⟨0, _, m4, _, Nat.zero_le _, rfl, rfl, rfl, p4.out, hl4⟩
  clear p4 hl4
  obtain ⟨i, C, mm, xx, hi, rfl, hmc, rfl, hP, hL⟩ := hrel
  obtain ⟨wp, rfl⟩ : ∃ x : World, x = wr := ⟨_, rfl⟩
  rcases Nat.lt_or_ge i n2 with hlt | hge
  case inl =>
    have hC9 : C ≤ j + 2 * i := by rw [← hmc]; exact hP.cm
    have hm3 := hP.three.1
    have hCp := hP.copied (Nat.le_refl _)
    replace hP := Lib.hid hP
    go_wp2_with fail
    refine hCp.mono ?_
    rintro e w5 ⟨cb, rfl, hT⟩
    clear hCp hP
    replace hP := hT
    clear hT
    (obtain ⟨b0, off, x, rfl, hb0, hx, q0, q1, q2, q3, q4, q5, q6, q7, q8, q9⟩ := (h2.1.below hP.both.bel).stp hlt
     have hxs := hsh2.out.2 x (List.mem_of_getElem? hx)
     have hkd := (h2.2 x (List.mem_of_getElem? hx)).kind
     have hib := (h2.2 x (List.mem_of_getElem? hx)).ib)
    have hfs := Lib.hid (h2.2 x (List.mem_of_getElem? hx))
    obtain ⟨u, z, hz, hw1, hw2, hw3, hw4, hw5⟩ := uint_vals x.i (m := 3) (by omega) (by omega) hib
    replace hw3 : Value.int .u64 ((u : Int).tmod 3) = Value.int .u64 z := hw3
    clear hw2
    replace hP := Lib.hid hP
    replace hx := Lib.hid hx
    by_cases hk4 : 4 < x.kind
    · go_wp2_with fail
      go_roundw
      case rel => exact ⟨i + 1, C, mm, xx, by omega, rfl, hmc, by go_num, (hP.out.both.below (Nat.le_refl _) (by repeat (first | exact Below.refl _ _ | assumption | refine Below.drew ?_ | refine below_drewN ?_ _ | refine Below.alloc ?_ (by first | omega | (simp; try omega)) _ | refine Below.setCell ?_ (by first | omega | (simp; try omega)) _ | (refine Below.trans ?_ (Below.mono (by assumption) (by first | omega | (simp; try omega))))))).more (by omega) (by omega), hL⟩
      case measure => simp [intOf]; omega
    have hy : StepIn w5 w.heap.size { x with i := (z : Int) } := { (hfs.out.below hP.out.both.bel) with ib := by dsimp only; omega }
    have hzh : mm.has (z : Int) = true := by unfold Wld.has; rw [hm3]; simp; omega
    have hst : mm.step { x with i := (z : Int) } = mm.tick := step_dark hkd.1 (by dsimp only; omega) hzh (tick_dark hL.out)
    have hD := Lib.hid fun W (hW : Below w5.heap.size w5 W) (h3 : w5.heap.size < W.heap.size) => Trio.doBox (q := w5.heap.size) hP.out (Nat.le_refl _) hW (Nat.le_refl _) h3 ((hy.ok hxs.1 hxs.2.1).below (hW.mono hP.out.both.bel.size)) (by omega)
    unfold Stepx.agg at hD
    rw [hst] at hD
    dsimp only at hD
    generalize xx.step { x with i := (z : Int) } = x8 at hD
    (have x9 := fun k => newCell w5 #[.int .u8 x.kind, .int .i64 x.i, .string x.name, .string x.data, .slice x.A x.n x.c, .int .u8 x.f.kind, .int .i64 x.f.store, .int .i64 x.f.n, .int .i64 x.f.at_, .int .i64 x.f.c] 41 (0, 0) k
     have n0 := x9 0
     have n1 := x9 1
     have n2' := x9 2
     have n3 := x9 3
     have n4 := x9 4
     have n5 := x9 5
     have n6 := x9 6
     have n7 := x9 7
     have n8 := x9 8
     have n9 := x9 9
     simp at n0 n1 n2' n3 n4 n5 n6 n7 n8 n9
     clear x9)
    have ht1 : mm.tick.calls = C + 1 := by rw [← hmc]; rfl
    have ht2 : mm.tick.dark = true := tick_dark hL.out
    have ht3 : mm.tick.tick.calls = C + 1 + 1 := by rw [← hmc]; rfl
    have ht4 : mm.tick.tick.dark = true := tick_dark (.inl ht2)
    have hth : mm.tick.has (z : Int) = true := hzh
    have ht5 : (mm.tick.err (z : Int) fun s => s.sync.2) = 56 := ans_dark hth ht4
    have ht6 : (mm.tick.go (z : Int) fun s => s.sync.1) = mm.tick.tick := go_dark hth ht4
    have ht7 : ∀ k : Int, mm.tick.tick.objs k = mm.objs k ∧ mm.tick.tick.up k = mm.up k := fun k => objs_of rfl rfl
    replace ht7 := Lib.hid ht7
    replace ht4 := Lib.hid ht4
    replace hzh := Lib.hid hzh
    replace hth := Lib.hid hth
    replace hst := Lib.hid hst
    clear hy hfs hL
    go_wp2_with fail
    refine (hD.out _ (by repeat (first | exact Below.refl _ _ | assumption | refine Below.drew ?_ | refine below_drewN ?_ _ | refine Below.alloc ?_ (by first | omega | (simp; try omega)) _ | refine Below.setCell ?_ (by first | omega | (simp; try omega)) _ | (refine Below.trans ?_ (Below.mono (by assumption) (by first | omega | (simp; try omega)))))) (by simp)).mono ?_
    rintro e w8 ⟨R, rfl, p8, hq8⟩
    clear hD hP
    have hi8 : w8.cell? ⟨w5.heap.size, 1, none⟩ = some (.int .i64 z) := by
      rw [World.cell?_of_block (a := ⟨w5.heap.size, 1, none⟩) hq8]
      simp
    have hCl := p8.both.calls
    have hDk := p8.both.dark
    have hSy := p8.sync (Nat.le_refl _) (z : Int) (by omega)
    rw [ht1] at hCl
    rw [ht2] at hDk
    rw [ht5, ht6] at hSy
    replace p8 := Lib.hid p8
    replace ht5 := Lib.hid ht5
    replace ht6 := Lib.hid ht6
    replace ht2 := Lib.hid ht2
    replace ht1 := Lib.hid ht1
    clear hq8 n0 n1 n2' n3 n4 n5 n6 n7 n8 n9
    go_wp2_with fail
    refine hCl.mono ?_
    rintro e wt ⟨rfl, rfl⟩
    go_wp2_with fail
    refine hDk.mono ?_
    rintro e wt ⟨rfl, rfl⟩
    go_wp2_with fail
    refine hSy.mono ?_
    rintro e w9 ⟨rfl, p9⟩
    clear hCl hDk hSy p8
    generalize mm.tick.tick = m9 at p9 ht3 ht4 ht7
    replace p9 := Lib.hid p9
    go_wp2_with fail
    go_loopw [14] (fun ti wr => ∃ (k : Nat), k ≤ 3 ∧ ti = .int .i64 k ∧ Trio w.heap.size w wr b (j + 2 * i + 1 + 1) c9 m9 x8 cb (j + 2 * i) mm) (fun ti _ => 3 - (intOf ti).toNat)
    case atStart => exact ⟨0, Nat.zero_le _, rfl, p9.out⟩
    case round =>
      clear p9
      obtain ⟨k3, hk3, rfl, hP⟩ := hrel
      obtain ⟨wq, rfl⟩ : ∃ x : World, x = wr := ⟨_, rfl⟩
      by_cases hlt3 : k3 < 3
      · obtain ⟨hob, hup⟩ := ht7.out k3
        (have hU1 := Lib.hid fun W (t : Trio w.heap.size w W b (j + 2 * i + 1 + 1) c9 m9 x8 cb (j + 2 * i) mm) => t.ups (k3 : Int)
         have hU2 := Lib.hid fun W (t : Trio w.heap.size w W b (j + 2 * i + 1 + 1) c9 m9 x8 cb (j + 2 * i) mm) => t.upsC (k3 : Int)
         have hO1 := hP.objs (Nat.le_refl _) (k3 : Int)
         have hO2 := Lib.hid fun W (t : Trio w.heap.size w W b (j + 2 * i + 1 + 1) c9 m9 x8 cb (j + 2 * i) mm) => t.objsC (Nat.le_refl _) (k3 : Int)
         rw [hob] at hO1
         rw [hup] at hU1
         generalize (mm).up (k3 : Int) = U at hU1 hU2
         generalize (mm).objs (k3 : Int) = O at hO1 hO2
         have hUU : (U == U) = true := by simp
         have hUV : (U != U) = false := by simp
         replace hup := Lib.hid hup
         replace hob := Lib.hid hob
         replace hP := Lib.hid hP
         go_wp2_with fail
         refine hO1.mono ?_
         rintro e wx ⟨A1, n1, c1, rfl, o1, b1, px⟩
         clear hO1
         replace hO2 := hO2.out _ px
         replace px := Lib.hid px
         go_wp2_with fail
         refine hO2.mono ?_
         rintro e wy ⟨A3, n3, c3, rfl, o3, b3, py⟩
         clear hO2 px
         have hSO := ref08_SameObjects A1 n1 c1 A3 n3 c3 O wy ((o1.below b3).more b3.size) o3
         replace py := Lib.hid py
         clear o1 o3
         go_wp2_with fail
         refine hSO.mono ?_
         rintro e wz ⟨rfl, bz⟩
         have pz := py.out.below (Nat.le_refl _) bz
         clear hSO py
         replace hU1 := hU1.out _ pz
         replace hU2 := hU2.out _ pz
         replace pz := Lib.hid pz
         go_wp2_with fail
         refine hU1.mono ?_
         rintro e wt ⟨rfl, rfl⟩
         go_wp2_with fail
         refine hU2.mono ?_
         rintro e wt ⟨rfl, rfl⟩
         clear hU1 hU2
         go_wp2_with fail)
        go_roundw
        case rel => exact ⟨k3 + 1, by omega, by go_num, pz.out⟩
        case measure => simp [intOf]; omega
      · obtain rfl : k3 = 3 := by omega
        have hbe := Lib.hid hP.both
        clear hP
        go_wp2_with fail
        go_roundw
        case rel => exact ⟨i + 1, C + 1 + 1, m9, x8, by omega, by go_num, ht3, by go_num, by rw [show j + 2 * (i + 1) = j + 2 * i + 1 + 1 by omega]; exact hbe.out, by unfold Hid; exact .inl ht4.out⟩
        case measure => simp [intOf]; omega
  obtain rfl : i = n2 := by omega
  have hbe := hP.bel
  clear hP hL
  go_wp2_with fail
  go_ret
  exact ⟨rfl, hbe⟩
end Go.Proofs.YtfkonpmnclknaaaGreat
