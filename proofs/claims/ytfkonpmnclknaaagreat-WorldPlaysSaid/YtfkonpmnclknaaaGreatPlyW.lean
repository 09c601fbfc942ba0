/-
  The walk of WorldPlays.
-/
import Derived.Test.YtfkonpmnclknaaaGreatPlyL
import Derived.Test.YtfkonpmnclknaaaGreatLikW
namespace Go.Proofs.YtfkonpmnclknaaaGreat
open Go.RowKit
attribute [local go_sem ↓] Go.wp_at_zero Go.wp_at_succ

theorem Quad.like1 {B b N M c cb c2 : Nat} {m mc : Wld} {w wr : World} (h : Quad B w wr b N c m cb M c2 mc) :
    Calls Tryz.prog 29 #[.pointer (some ⟨b, 0, none⟩), .pointer (some ⟨c, 0, none⟩)] wr fun e w' => e = .returned (.bool true) ∧ Below wr.heap.size wr w' := by
  obtain ⟨X, Y, Z, Y2, h1, h2, h3, h4, h5⟩ := h
  exact law08_like b N c X Y m wr h1
theorem Quad.like2 {B b N M c cb c2 : Nat} {m mc : Wld} {w wr : World} (h : Quad B w wr b N c m cb M c2 mc) :
    Calls Tryz.prog 29 #[.pointer (some ⟨cb, 0, none⟩), .pointer (some ⟨c2, 0, none⟩)] wr fun e w' => e = .returned (.bool true) ∧ Below wr.heap.size wr w' := by
  obtain ⟨X, Y, Z, Y2, h1, h2, h3, h4, h5⟩ := h
  exact law08_like cb M c2 Z Y2 mc wr h4
theorem world_NewX (n : Nat) (h1 : 1 ≤ n) (h12 : n ≤ 12) (w : World) :
    Calls Tryz.prog 11 #[.int .i64 n] w fun e w' => ∃ b X, e = .returned (.tuple #[.pointer (some ⟨b, 0, none⟩), .int .i64 0]) ∧ WldAt w' b X 0 (Wld.new n) ∧ (∀ x ∈ X, w.heap.size ≤ x) ∧ Below w.heap.size w w' := by
  refine (world_New n h1 h12 w).mono ?_
  rintro e w' ⟨rfl, X, h⟩
  exact ⟨_, X, rfl, h⟩

set_option maxHeartbeats 8000000 in
set_option maxRecDepth 100000 in
theorem worldPlays_walk (z : Int) (A : Option Addr) (n c : Nat) (l : List Stepx) (w : World) (h : StepsAt w w.heap.size A n l ∧ (∀ a ∈ l, StepIn w w.heap.size a)) :
    Calls Tryz.prog 6 #[.int .i64 z, .slice A n c] w fun e w' => e = .returned (.bool true) ∧ Below w.heap.size w w' := by
  have hl := Lib.hid h.1.1
  have hend := Lib.hid fun w' (hb : Below w.heap.size w w') => hb
  go_enter Tryz.func6, Tryz.ntmps6
  go_wp2_with fail
  (refine (law08_long A n c l _ (h).1 (h).2).mono ?_
   rintro e wz ⟨he, hw⟩
   obtain rfl := hw.symm
   rcases he with ⟨rfl, hsh⟩ | rfl
   case inr =>
     go_wp2_with fail
     refine (law08_awake _).mono ?_
     rintro e wa ⟨rfl, ba⟩
     go_wp2_with fail
     go_ret
     exact ⟨rfl, by first | exact ba | exact hend.out _ ba⟩
   replace hsh := Lib.hid hsh
   go_wp2_with fail)
  have hn9 : n ≤ 60 := by have := hsh.out.1; have := hl.out; omega
  by_cases hbad : z < 1 ∨ 12 < z
  · have hb2 := Lib.hid hbad
    refine (world_New_bad z hbad w).mono ?_
    rintro e wz ⟨rfl, hw⟩
    obtain rfl := hw.symm
    clear hbad hw
    go_wp2_with fail
    refine (ref08_New_bad z hb2.out _).mono ?_
    rintro e wz ⟨rfl, hw⟩
    obtain rfl := hw.symm
    clear hw
    go_wp2_with fail
    refine (law08_awake _).mono ?_
    rintro e wa ⟨rfl, ba⟩
    go_wp2_with fail
    go_ret
    exact ⟨rfl, ba⟩
  obtain ⟨N, rfl, hN1, hN2⟩ : ∃ N : Nat, z = N ∧ 1 ≤ N ∧ N ≤ 12 := ⟨z.toNat, by omega, by omega, by omega⟩
  clear hbad
  refine (world_NewX N hN1 hN2 w).mono ?_
  rintro e w2 ⟨b, X2, rfl, p2, lo2, y2⟩
  go_wp2_with fail
  refine (ref08_New N hN1 hN2 w2).mono ?_
  rintro e w3 ⟨c9, Y3, rfl, p3, lo3, y3⟩
  have hP := Duo.new (by omega) (Below.refl _ w) (Nat.le_refl _) p2 lo2 y2 p3 lo3 y3
  clear p2 lo2 y2 p3 lo3 y3
  go_wp2_with fail
  go_loopw [9, 10, 11] (fun ti _ _ wr => ∃ (j : Nat) (m : Wld), j ≤ n ∧ ti = .int .i64 j ∧ Duo w.heap.size w wr b j c9 m) (fun ti _ _ _ => n - (intOf ti).toNat)
  case atStart => exact ⟨0, _, Nat.zero_le _, rfl, hP⟩
  clear hP
  obtain ⟨j, m, hj, rfl, hP⟩ := hrel
  obtain ⟨wp, rfl⟩ : ∃ x : World, x = wr := ⟨_, rfl⟩
  rcases Nat.lt_or_ge j n with hlt | hge
  case inl =>
    have hC := hP.copied (Nat.le_refl _)
    replace hP := Lib.hid hP
    go_wp2_with fail
    refine hC.mono ?_
    rintro e w5 ⟨cb, rfl, hH⟩
    clear hC hP
    have hC := hH.copied (Nat.le_refl _)
    replace hH := Lib.hid hH
    go_wp2_with fail
    refine hC.mono ?_
    rintro e w6 ⟨c2, rfl, hQ⟩
    clear hC hH
    obtain ⟨b0, off, x, rfl, hb0, hx, q0, q1, q2, q3, q4, q5, q6, q7, q8, q9⟩ := (h.1.below hQ.bel).stp hlt
    have hxs := hsh.out.2 x (List.mem_of_getElem? hx)
    have hD := hQ.do_ (Nat.le_refl _) (((h.2 x (List.mem_of_getElem? hx)).below hQ.bel).ok hxs.1 hxs.2.1) (by omega)
    unfold Stepx.agg at hD
    replace hQ := Lib.hid hQ
    replace hx := Lib.hid hx
    clear hxs
    generalize m.step x = m8 at hD
    replace hD := Lib.hid hD
    go_wp2_with fail
    refine hD.out.mono ?_
    rintro e w7 ⟨rfl, hQ7⟩
    clear hD hQ q0 q1 q2 q3 q4 q5 q6 q7 q8 q9
    have hL := hQ7.like1
    replace hQ7 := Lib.hid hQ7
    go_wp2_with fail
    refine hL.mono ?_
    rintro e w8 ⟨rfl, b8⟩
    have hQ8 := hQ7.out.below (Nat.le_refl _) b8
    clear hL hQ7 b8
    have hL := hQ8.like2
    replace hQ8 := Lib.hid hQ8
    go_wp2_with fail
    refine hL.mono ?_
    rintro e w9 ⟨rfl, b9⟩
    have hQ9 := Lib.hid ((hQ8.out.below (Nat.le_refl _) b9).duo)
    clear hL hQ8 b9
    go_wp2_with fail
    go_roundw
    case rel => exact ⟨j + 1, m8, by omega, by go_num, hQ9.out⟩
    case measure => simp [intOf]; omega
  obtain rfl : j = n := by omega
  have hbe := hP.bel
  clear hP
  go_wp2_with fail
  refine (law08_awake _).mono ?_
  rintro e wa ⟨rfl, ba⟩
  go_wp2_with fail
  go_ret
  exact ⟨rfl, hbe.trans (ba.mono hbe.size)⟩
end Go.Proofs.YtfkonpmnclknaaaGreat
