/-
  The walk of WorldApart.
-/
import Derived.Test.YtfkonpmnclknaaaGreatWldQ
import Derived.Test.YtfkonpmnclknaaaGreatUint
namespace Go.Proofs.YtfkonpmnclknaaaGreat
open Go.RowKit
attribute [local go_sem ↓] Go.wp_at_zero Go.wp_at_succ

set_option maxHeartbeats 8000000 in
set_option maxRecDepth 100000 in
theorem worldApart_walk (A : Option Addr) (n c : Nat) (l : List Stepx) (A2 : Option Addr) (n2 c2 : Nat) (l2 : List Stepx) (k : Int) (hk : -9223372036854775808 ≤ k ∧ k ≤ 9223372036854775807) (w : World) (h : StepsAt w w.heap.size A n l ∧ (∀ a ∈ l, StepIn w w.heap.size a)) (h2 : StepsAt w w.heap.size A2 n2 l2 ∧ (∀ a ∈ l2, StepIn w w.heap.size a)) :
    Calls Tryz.prog 8 #[.slice A n c, .slice A2 n2 c2, .int .i64 k] w fun e w' => e = .returned (.bool true) ∧ Below w.heap.size w w' := by
  have hl := Lib.hid h.1.1
  have hl2 := Lib.hid h2.1.1
  obtain ⟨u, a, ha, hw1, hw2, hw3, hw4, hw5⟩ := uint_vals k (m := 3) (by omega) (by omega) hk
  replace hw3 : Value.int .u64 ((u : Int).tmod 3) = Value.int .u64 a := hw3
  clear hw2
  go_enter Tryz.func8, Tryz.ntmps8
  go_wp2_with fail
  (refine (law08_long A n c l _ (h).1 (h).2).mono ?_
   rintro e wz ⟨he, hw⟩
   obtain rfl := hw.symm
   rcases he with ⟨rfl, hsh⟩ | rfl
   case inr =>
     go_wp2_with fail
     refine (law08_awake _).mono ?_
     rintro e wa ⟨rfl, ba⟩
     go_wp2_with fail
     go_ret
     exact ⟨rfl, ba⟩
   replace hsh := Lib.hid hsh
   go_wp2_with fail)
  (refine (law08_long A2 n2 c2 l2 _ (h2).1 (h2).2).mono ?_
   rintro e wz ⟨he, hw⟩
   obtain rfl := hw.symm
   rcases he with ⟨rfl, hsh2⟩ | rfl
   case inr =>
     go_wp2_with fail
     refine (law08_awake _).mono ?_
     rintro e wa ⟨rfl, ba⟩
     go_wp2_with fail
     go_ret
     exact ⟨rfl, ba⟩
   replace hsh2 := Lib.hid hsh2
   go_wp2_with fail)
  have hn9 : n ≤ 60 := by have := hsh.out.1; have := hl.out; omega
  have hn29 : n2 ≤ 60 := by have := hsh2.out.1; have := hl2.out; omega
  (refine (law08_awake w).mono ?_
   rintro e w1 ⟨rfl, y1⟩
   go_wp2_with fail
   refine (world_New 3 (by decide) (by decide) w1).mono ?_
   rintro e w2 ⟨rfl, X2, p2, lo2, y2⟩
   generalize hb9 : w1.heap.size = b at p2 ⊢
   replace hb9 := Lib.hid hb9
   go_wp2_with fail
   refine (ref08_New 3 (by decide) (by decide) w2).mono ?_
   rintro e w3 ⟨c9, Y3, rfl, p3, lo3, y3⟩
   have hP := Both.new y1 y1.size p2 lo2 y2 p3 lo3 y3
   clear p2 lo2 y2 p3 lo3 y3
   go_wp2_with fail)
  (go_loopw [11] (fun ti wr => ∃ (j : Nat) (m : Wld), j ≤ n ∧ ti = .int .i64 j ∧ Both w.heap.size w wr b j c9 m m) (fun ti _ => n - (intOf ti).toNat)
   case atStart => exact ⟨0, _, Nat.zero_le _, rfl, hP⟩
   obtain ⟨j, m, hj, rfl, hP⟩ := hrel
   obtain ⟨wp, rfl⟩ : ∃ x : World, x = wr := ⟨_, rfl⟩
   rcases Nat.lt_or_ge j n with hlt | hge
   case inl =>
     obtain ⟨b0, off, x, rfl, hb0, hx, q0, q1, q2, q3, q4, q5, q6, q7, q8, q9⟩ := ((h).1.below hP.bel).stp hlt
     have hxs := (hsh).out.2 x (List.mem_of_getElem? hx)
     have hD := hP.do_ (Nat.le_refl _) (((h).2 x (List.mem_of_getElem? hx)).below hP.bel |>.ok hxs.1 hxs.2.1) (by omega)
     unfold Stepx.agg at hD
     replace hD := Lib.hid hD
     replace hP := Lib.hid hP
     replace hx := Lib.hid hx
     clear hxs
     go_wp2_with fail
     refine hD.out.mono ?_
     rintro e w7 ⟨R, rfl, _, p7⟩
     replace p7 := Lib.hid p7
     clear hD hP
     go_wp2_with fail
     go_roundw
     case rel => exact ⟨j + 1, _, by omega, by go_num, p7.out⟩
     case measure => simp [intOf]; omega
   obtain rfl : j = n := by omega
   clear hj hge)
  have hm3 := hP.three.1
  have hC := hP.copied (Nat.le_refl _)
  replace hP := Lib.hid hP
  go_wp2_with fail
  refine hC.mono ?_
  rintro e w4 ⟨cb, rfl, hT4⟩
  clear hC hP hw1 hw3 hw4 hw5
  go_wp2_with fail
  go_loopw [14, 15] (fun ti _ wr => ∃ (i : Nat) (mm : Wld), i ≤ n2 ∧ ti = .int .i64 i ∧ Trio w.heap.size w wr b (j + i) c9 mm mm cb j m ∧ Hid (∀ k : Nat, a ≠ k → mm.stores[k]? = m.stores[k]?)) (fun ti _ _ => n2 - (intOf ti).toNat)
  case atStart => exact ⟨0, _, Nat.zero_le _, rfl, hT4, by unfold Hid; intros; rfl⟩
  clear hT4
  obtain ⟨i, mm, hi, rfl, hP, hS⟩ := hrel
  obtain ⟨wp, rfl⟩ : ∃ x : World, x = wr := ⟨_, rfl⟩
  rcases Nat.lt_or_ge i n2 with hlt | hge
  case inl =>
    (obtain ⟨b0, off, x, rfl, hb0, hx, q0, q1, q2, q3, q4, q5, q6, q7, q8, q9⟩ := (h2.1.below hP.both.bel).stp hlt
     have hxs := hsh2.out.2 x (List.mem_of_getElem? hx)
     have hkd := (h2.2 x (List.mem_of_getElem? hx)).kind
     have hib := (h2.2 x (List.mem_of_getElem? hx)).ib)
    have hfs := Lib.hid (h2.2 x (List.mem_of_getElem? hx))
    replace hP := Lib.hid hP
    replace hx := Lib.hid hx
    by_cases h5 : x.kind = 5
    · rw [h5] at q0
      go_wp2_with fail
      go_roundw
      case rel => exact ⟨i + 1, mm, by omega, by go_num, (hP.out.below (Nat.le_refl _) (by repeat (first | exact Below.refl _ _ | assumption | refine Below.drew ?_ | refine below_drewN ?_ _ | refine Below.alloc ?_ (by first | omega | (simp; try omega)) _ | refine Below.setCell ?_ (by first | omega | (simp; try omega)) _ | (refine Below.trans ?_ (Below.mono (by assumption) (by first | omega | (simp; try omega))))))).more (by omega) (by omega), hS⟩
      case measure => simp [intOf]; omega
    by_cases h6 : x.kind = 6
    · rw [h6] at q0
      go_wp2_with fail
      go_roundw
      case rel => exact ⟨i + 1, mm, by omega, by go_num, (hP.out.below (Nat.le_refl _) (by repeat (first | exact Below.refl _ _ | assumption | refine Below.drew ?_ | refine below_drewN ?_ _ | refine Below.alloc ?_ (by first | omega | (simp; try omega)) _ | refine Below.setCell ?_ (by first | omega | (simp; try omega)) _ | (refine Below.trans ?_ (Below.mono (by assumption) (by first | omega | (simp; try omega))))))).more (by omega) (by omega), hS⟩
      case measure => simp [intOf]; omega
    by_cases h7 : 7 < x.kind
    · go_wp2_with fail
      go_roundw
      case rel => exact ⟨i + 1, mm, by omega, by go_num, (hP.out.below (Nat.le_refl _) (by repeat (first | exact Below.refl _ _ | assumption | refine Below.drew ?_ | refine below_drewN ?_ _ | refine Below.alloc ?_ (by first | omega | (simp; try omega)) _ | refine Below.setCell ?_ (by first | omega | (simp; try omega)) _ | (refine Below.trans ?_ (Below.mono (by assumption) (by first | omega | (simp; try omega))))))).more (by omega) (by omega), hS⟩
      case measure => simp [intOf]; omega
    have e5 : (x.kind == (5 : Int)) = false := by simpa using h5
    have e6 : (x.kind == (6 : Int)) = false := by simpa using h6
    have hy : StepIn wp w.heap.size { x with i := (a : Int), f := { x.f with store := (a : Int) } } := { (hfs.out.below hP.out.both.bel) with ib := by dsimp only; omega, fs := by dsimp only; omega }
    have hD := Lib.hid fun W (hW : Below wp.heap.size wp W) => (hP.out.below (Nat.le_refl _) hW).do_ (Nat.le_refl _) ((hy.ok hxs.1 hxs.2.1).below (hW.mono hP.out.both.bel.size)) (by omega)
    unfold Stepx.agg at hD
    dsimp only at hD
    have hS2 : Hid (∀ k : Nat, a ≠ k → (mm.step { x with i := (a : Int), f := { x.f with store := (a : Int) } }).stores[k]? = m.stores[k]?) := by
      unfold Hid
      intro k hk
      exact (step_apart (a := { x with i := (a : Int), f := { x.f with store := (a : Int) } }) (n := a) rfl rfl h5 h6 (by dsimp only; omega) hkd.1 hk).trans (hS.out k hk)
    generalize mm.step { x with i := (a : Int), f := { x.f with store := (a : Int) } } = m8 at hD hS2
    (have x9 := fun k => newCell wp #[.int .u8 x.kind, .int .i64 x.i, .string x.name, .string x.data, .slice x.A x.n x.c, .int .u8 x.f.kind, .int .i64 x.f.store, .int .i64 x.f.n, .int .i64 x.f.at_, .int .i64 x.f.c] 41 (0, 0) k
     have n0 := x9 0
     have n1 := x9 1
     have n2' := x9 2
     have n3 := x9 3
     have n4 := x9 4
     have n5 := x9 5
     have n6 := x9 6
     have n7 := x9 7
     have n8 := x9 8
     have n9 := x9 9
     simp at n0 n1 n2' n3 n4 n5 n6 n7 n8 n9
     clear x9)
    clear hy hS hfs
    go_wp2_with fail
    refine (hD.out _ (by repeat (first | exact Below.refl _ _ | assumption | refine Below.drew ?_ | refine below_drewN ?_ _ | refine Below.alloc ?_ (by first | omega | (simp; try omega)) _ | refine Below.setCell ?_ (by first | omega | (simp; try omega)) _ | (refine Below.trans ?_ (Below.mono (by assumption) (by first | omega | (simp; try omega))))))).mono ?_
    rintro e w8 ⟨R, rfl, p8⟩
    clear hD hP
    replace p8 := Lib.hid p8
    go_wp2_with fail
    go_roundw
    case rel => exact ⟨i + 1, m8, by omega, by go_num, p8.out, hS2⟩
    case measure => simp [intOf]; omega
  obtain rfl : i = n2 := by omega
  clear hge hi
  go_wp2_with fail
  go_loopw [16] (fun ti wr => ∃ (k : Nat), k ≤ 3 ∧ ti = .int .i64 k ∧ Trio w.heap.size w wr b (j + i) c9 mm mm cb j m) (fun ti _ => 3 - (intOf ti).toNat)
  case atStart => exact ⟨0, Nat.zero_le _, rfl, hP⟩
  clear hP
  obtain ⟨k3, hk3, rfl, hP⟩ := hrel
  obtain ⟨wq, rfl⟩ : ∃ x : World, x = wr := ⟨_, rfl⟩
  rcases Nat.lt_or_ge k3 3 with hlt | hge
  case inl =>
    by_cases hka : k3 = a
    · subst hka
      replace hP := Lib.hid hP
      go_wp2_with fail
      go_roundw
      case rel => exact ⟨k3 + 1, by omega, by go_num, hP.out⟩
      case measure => simp [intOf]; omega
    · have hne : ((k3 : Int) != (a : Int)) = true := by simp; omega
      obtain ⟨hob, hup⟩ := objs_of (m := mm) (m' := m) (i := (k3 : Int)) (by rw [hP.both.three.1, hm3]) (hS.out k3 (fun e => hka e.symm))
      (have hU1 := Lib.hid fun W (t : Trio w.heap.size w W b (j + i) c9 mm mm cb (j) m) => t.ups (k3 : Int)
       have hU2 := Lib.hid fun W (t : Trio w.heap.size w W b (j + i) c9 mm mm cb (j) m) => t.upsC (k3 : Int)
       have hO1 := hP.objs (Nat.le_refl _) (k3 : Int)
       have hO2 := Lib.hid fun W (t : Trio w.heap.size w W b (j + i) c9 mm mm cb (j) m) => t.objsC (Nat.le_refl _) (k3 : Int)
       rw [hob] at hO1
       rw [hup] at hU1
       generalize (m).up (k3 : Int) = U at hU1 hU2
       generalize (m).objs (k3 : Int) = O at hO1 hO2
       have hUU : (U == U) = true := by simp
       have hUV : (U != U) = false := by simp
       replace hup := Lib.hid hup
       replace hob := Lib.hid hob
       replace hP := Lib.hid hP
       go_wp2_with fail
       refine hO1.mono ?_
       rintro e wx ⟨A1, n1, c1, rfl, o1, b1, px⟩
       clear hO1
       replace hO2 := hO2.out _ px
       replace px := Lib.hid px
       go_wp2_with fail
       refine hO2.mono ?_
       rintro e wy ⟨A3, n3, c3, rfl, o3, b3, py⟩
       clear hO2 px
       have hSO := ref08_SameObjects A1 n1 c1 A3 n3 c3 O wy ((o1.below b3).more b3.size) o3
       replace py := Lib.hid py
       clear o1 o3
       go_wp2_with fail
       refine hSO.mono ?_
       rintro e wz ⟨rfl, bz⟩
       have pz := py.out.below (Nat.le_refl _) bz
       clear hSO py
       replace hU1 := hU1.out _ pz
       replace hU2 := hU2.out _ pz
       replace pz := Lib.hid pz
       go_wp2_with fail
       refine hU1.mono ?_
       rintro e wt ⟨rfl, rfl⟩
       go_wp2_with fail
       refine hU2.mono ?_
       rintro e wt ⟨rfl, rfl⟩
       clear hU1 hU2
       go_wp2_with fail)
      go_roundw
      case rel => exact ⟨k3 + 1, by omega, by go_num, pz.out⟩
      case measure => simp [intOf]; omega
  obtain rfl : k3 = 3 := by omega
  have hbe := hP.both.bel
  clear hP hS
  go_wp2_with fail
  go_ret
  exact ⟨rfl, hbe⟩
end Go.Proofs.YtfkonpmnclknaaaGreat
