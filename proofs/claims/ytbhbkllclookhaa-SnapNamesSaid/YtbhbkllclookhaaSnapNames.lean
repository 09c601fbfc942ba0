/-
  SnapNames returns true: the examples, the limits and the errors are as the document has them. No condition.
-/
import Derived.Test.YtbhbkllclookhaaWorks
import Derived.Test.YtbhbkllclookhaaRef21
import Derived.Test.YtbhbkllclookhaaPutS
import Derived.Test.YtbhbkllclookhaaLaw
namespace Go.Proofs.Ytbhbkllclookhaa
open Go.ChangeShapes Go.WideShapes Go.ChangeAt Go.RowKit
attribute [local go_sem ↓] Go.wp_at_zero Go.wp_at_succ

def manyL (n : Nat) : List Snap := (List.range n).map fun (i : Nat) => oneSnap ((i : Int) + 1) 0 97
theorem manyL_succ (n : Nat) : manyL (n + 1) = manyL n ++ [oneSnap ((n : Int) + 1) 0 97] := by simp [manyL, List.range_succ]
theorem manyL_len (n : Nat) : (manyL n).length = n := by simp [manyL]

set_option maxHeartbeats 1000000 in
theorem many_any (n : Nat) (hn : n ≤ 1000) (w : World) : Calls Try.prog 25 #[.int .i64 n] w fun e w' => ∃ v, e = .returned v ∧ snapE.Own w' w.heap.size v (manyL n) ∧ Below w.heap.size w w' := by
  go_enter Try.func25, Try.ntmps25
  go_wp2_with fail
  go_loopw [3, 4] (fun v i wr => ∃ k : Nat, k ≤ n ∧ i = .int .i64 k ∧ snapE.Own wr w.heap.size v (manyL k) ∧ Below w.heap.size w wr) (fun _ i _ => n - (intOf i).toNat)
  case atStart => exact ⟨0, Nat.zero_le _, rfl, by simpa [manyL] using Owns.nil_, (by repeat (first | exact Below.refl _ _ | assumption | refine Below.drew ?_ | refine below_drewN ?_ _ | refine Below.alloc ?_ (by first | omega | (simp; try omega)) _ | refine Below.setCell ?_ (by first | omega | (simp; try omega)) _ | (refine Below.trans ?_ (Below.mono (by assumption) (by first | omega | (simp; try omega))))))⟩
  case round =>
    obtain ⟨k, hk, rfl, hown, hbr⟩ := hrel
    have hzr := hbr.size
    by_cases hlt : k < n
    · have hlen : (manyL k).length ≤ 1000 := by rw [manyL_len]; omega
      replace hlen := Lib.hid hlen
      go_wp2_with fail
      refine (one_lit ((k : Int) + 1) 0 97 wr).mono ?_
      rintro e w1 ⟨rfl, hbw1⟩
      have hz1 := hbw1.size
      have hown1 := hown.below hbw1
      have hb1 : Below w.heap.size w w1 := (by repeat (first | exact Below.refl _ _ | assumption | refine Below.drew ?_ | refine below_drewN ?_ _ | refine Below.alloc ?_ (by first | omega | (simp; try omega)) _ | refine Below.setCell ?_ (by first | omega | (simp; try omega)) _ | (refine Below.trans ?_ (Below.mono (by assumption) (by first | omega | (simp; try omega))))))
      go_wp2_with (at_builtin; go_must (refine Elem.wpList_one snapE rfl (.tmp 10) (.tmp 14) rfl w.heap.size _ (manyL k) rfl _ _ (oneSnap ((k : Int) + 1) 0 97) rfl (hown1.alloc _) (fun j u hu => by rcases j with _ | _ | _ | j <;> simp [snapE, Snap.cells, oneSnap] at hu <;> subst hu <;> go_simp) (by have := hlen.out; omega) (by first | omega | (simp; try omega)) ?_); intro v2 w2 hown2 hg2 hat2; have hbb2 : Below w.heap.size w w2 := Below.grownOwn (by repeat (first | exact Below.refl _ _ | assumption | refine Below.drew ?_ | refine below_drewN ?_ _ | refine Below.alloc ?_ (by first | omega | (simp; try omega)) _ | refine Below.setCell ?_ (by first | omega | (simp; try omega)) _ | (refine Below.trans ?_ (Below.mono (by assumption) (by first | omega | (simp; try omega)))))) (hown1.alloc _) (Nat.le_refl _) (by first | omega | (simp; try omega)) hg2; have hzz2 := hbb2.size)
      go_roundw
      case rel => exact ⟨k + 1, by omega, by go_num, by rw [manyL_succ]; exact hown2, hbb2⟩
      case measure => simp [intOf]; omega
    · obtain rfl : k = n := by omega
      go_wp2_with fail
      go_ret
      exact ⟨_, rfl, hown, hbr⟩
theorem many_row (n : Nat) (hn : n ≤ 1000) (w : World) : Calls Try.prog 25 #[.int .i64 n] w fun e w' => ∃ A m c, e = .returned (.slice A m c) ∧ SnapsAt w' w'.heap.size A m (manyL n) ∧ Below w.heap.size w w' :=
  (many_any n hn w).mono fun _ _ ⟨v, he, ho, hb⟩ => by
    obtain ⟨A, m, c, rfl, hr⟩ := ho.view Snap.len
    exact ⟨A, m, c, he, hr, hb⟩

def badL : List Snap := [oneSnap 2 0 97, oneSnap 2 0 97]
def bigSnap : Snap := oneSnap 2147483647 1099511627776 97
def threeR : List Snap := [oneSnap 1 0 99, oneSnap 2 0 97, oneSnap 3 0 99]
theorem bad_may : mayL badL = false := by decide +kernel
theorem bad_find : findRes badL 2 = (Snap.zero, 4) := by simp [findRes, bad_may]
theorem bad_drop : dropRes badL 2 = ([], 4) := by simp [dropRes, bad_may]
theorem bad_add (s : Snap) : addRes badL s = ([], 4) := by simp [addRes, bad_may]
theorem bad_roots : rootsRes badL = ([], 4) := by simp [rootsRes, bad_may]
theorem may_nil : mayL [] = true := rfl
theorem may32 : mayL (manyL 32) = true := by decide +kernel
theorem may33 : mayL (manyL 33) = false := by decide +kernel
theorem add33 : addRes (manyL 32) (oneSnap 33 0 97) = ([], 40) := by decide +kernel
theorem add32 : addRes (manyL 32) (oneSnap 32 0 97) = ([], 1) := by decide +kernel
theorem add31 : addRes (manyL 31) bigSnap = (manyL 31 ++ [bigSnap], 0) := by decide +kernel
theorem find32 : findRes (manyL 32) 32 = (oneSnap 32 0 97, 0) := by decide +kernel
theorem find33 : findRes (manyL 32) 33 = (Snap.zero, 5) := by decide +kernel
theorem find0 : findRes [] 0 = (Snap.zero, 5) := by decide +kernel
theorem three_may : mayL threeR = true := by decide +kernel
theorem lt_ac : sLt (letterRoot 97) (letterRoot 99) = true := by
  rw [sLt_iff]
  decide +kernel
theorem three_roots : rootsRes threeR = ([letterRoot 97, letterRoot 99], 0) := by
  unfold rootsRes
  rw [if_pos three_may]
  have : setS (threeR.map Snap.root) = [letterRoot 97, letterRoot 99] := by
    refine (setS_unique (l := threeR.map Snap.root) ?_ ?_).symm
    · simpa using lt_ac
    · intro z
      simp [threeR, oneSnap]
      grind
  rw [this]
theorem same22 : sameL (manyL 2) (manyL 2) = true := by simp [sameL]
theorem same21 : sameL (manyL 2) (manyL 1) = false := by decide +kernel
theorem one_0 : mayOne ⟨0, 0, letterRoot 97⟩ = false := by decide +kernel
theorem one_big : mayOne ⟨2147483648, 0, letterRoot 97⟩ = false := by decide +kernel
theorem one_neg : mayOne ⟨1, -1, letterRoot 97⟩ = false := by decide +kernel
theorem one_late : mayOne ⟨1, 1099511627777, letterRoot 97⟩ = false := by decide +kernel

theorem agg_lit (s : Snap) : s.agg = .agg #[.int .i64 s.id, .int .i64 s.time, .string s.root] := rfl

set_option maxHeartbeats 8000000 in
set_option maxRecDepth 100000 in
theorem snapNames_walk (w : World) : Calls Try.prog 6 #[] w fun e w' => e = .returned (.bool true) ∧ Below w.heap.size w w' := by
  go_enter Try.func6, Try.ntmps6
  go_wp2_with fail
  refine (works_any _).mono ?_
  rintro e w0 ⟨rfl, hb0⟩
  have hz0 := hb0.size
  go_wp2_with fail
  refine (one_lit 2 0 97 _).mono ?_
  rintro e w1 ⟨rfl, hb1⟩
  have hz1 := hb1.size
  go_wp2_with fail
  refine (one_lit 2 0 97 _).mono ?_
  rintro e w2 ⟨rfl, hb2⟩
  have hz2 := hb2.size
  go_wp2_with fail
  have hbad : SnapsAt (w2.alloc (.cells #[.int .i64 2, .int .i64 0, .string (letterRoot 97), .int .i64 2, .int .i64 0, .string (letterRoot 97)] 24)) (w2.heap.size + 1) (some ⟨w2.heap.size, 0, none⟩) 2 badL := by
    refine ⟨rfl, by omega, fun _ => ⟨_, _, rfl, by omega, fun i x hx j v hv => ?_⟩⟩
    rcases i with _ | _ | i <;> simp [badL] at hx <;> subst hx <;> rcases j with _ | _ | _ | j <;> simp [Snap.cells, oneSnap] at hv <;> subst hv <;> go_simp
  obtain ⟨wx, hwx⟩ : ∃ wx, wx = w2.alloc (.cells #[.int .i64 2, .int .i64 0, .string (letterRoot 97), .int .i64 2, .int .i64 0, .string (letterRoot 97)] 24) := ⟨_, rfl⟩
  rw [← hwx] at hbad ⊢
  have hzx : wx.heap.size = w2.heap.size + 1 := by rw [hwx]; simp
  have hbx : Below w.heap.size w wx := by rw [hwx]; exact (((hb0.trans (hb1.mono hz0)).trans (hb2.mono (by omega))).alloc (by omega) _)
  rw [← hzx] at hbad
  replace hzx := Lib.hid hzx
  clear hwx hb0 hb1 hb2 hz0 hz1 hz2
  refine (snap_Find' _ 2 _ badL wx hbad 2).mono ?_
  rw [bad_find]
  simp only [Snap.agg, Snap.zero]
  rintro e w3 ⟨rfl, hb3⟩
  have hz3 := hb3.size
  (try simp at hz3)
  have hp3 : Below wx.heap.size wx w3 := (by repeat (first | exact Below.refl _ _ | assumption | refine Below.drew ?_ | refine below_drewN ?_ _ | refine Below.alloc ?_ (by first | omega | (simp; try omega)) _ | refine Below.setCell ?_ (by first | omega | (simp; try omega)) _ | (refine Below.trans ?_ (Below.mono (by assumption) (by first | omega | (simp; try omega))))))
  have hy3 := hp3.size
  have hw3 : Below w.heap.size w w3 := hbx.trans (hp3.mono (by have := hbx.size; omega))
  replace hbad := hbad.to hp3
  clear hb3 hz3 hp3
  go_wp2_with fail
  refine (snap_Drop _ 2 _ badL _ (hbad.to (by repeat (first | exact Below.refl _ _ | assumption | refine Below.drew ?_ | refine below_drewN ?_ _ | refine Below.alloc ?_ (by first | omega | (simp; try omega)) _ | refine Below.setCell ?_ (by first | omega | (simp; try omega)) _ | (refine Below.trans ?_ (Below.mono (by assumption) (by first | omega | (simp; try omega))))))) 2).mono ?_
  rw [bad_drop]
  rintro e w4 ⟨A4, n4, c4, rfl, _, _, hb4⟩
  have hz4 := hb4.size
  (try simp at hz4)
  have hp4 : Below w3.heap.size w3 w4 := (by repeat (first | exact Below.refl _ _ | assumption | refine Below.drew ?_ | refine below_drewN ?_ _ | refine Below.alloc ?_ (by first | omega | (simp; try omega)) _ | refine Below.setCell ?_ (by first | omega | (simp; try omega)) _ | (refine Below.trans ?_ (Below.mono (by assumption) (by first | omega | (simp; try omega))))))
  have hy4 := hp4.size
  have hw4 : Below w.heap.size w w4 := hw3.trans (hp4.mono (by have := hw3.size; omega))
  replace hbad := hbad.to hp4
  clear hb4 hz4 hp4
  go_wp2_with fail
  refine (one_lit 3 0 97 _).mono ?_
  rintro e w5 ⟨rfl, hb5⟩
  have hz5 := hb5.size
  (try simp at hz5)
  have hp5 : Below w4.heap.size w4 w5 := (by repeat (first | exact Below.refl _ _ | assumption | refine Below.drew ?_ | refine below_drewN ?_ _ | refine Below.alloc ?_ (by first | omega | (simp; try omega)) _ | refine Below.setCell ?_ (by first | omega | (simp; try omega)) _ | (refine Below.trans ?_ (Below.mono (by assumption) (by first | omega | (simp; try omega))))))
  have hy5 := hp5.size
  have hw5 : Below w.heap.size w w5 := hw4.trans (hp5.mono (by have := hw4.size; omega))
  replace hbad := hbad.to hp5
  clear hb5 hz5 hp5
  go_wp2_with fail
  refine (snap_Add _ 2 _ badL (oneSnap 3 0 97) _ (hbad.to (by repeat (first | exact Below.refl _ _ | assumption | refine Below.drew ?_ | refine below_drewN ?_ _ | refine Below.alloc ?_ (by first | omega | (simp; try omega)) _ | refine Below.setCell ?_ (by first | omega | (simp; try omega)) _ | (refine Below.trans ?_ (Below.mono (by assumption) (by first | omega | (simp; try omega)))))))).mono ?_
  rw [bad_add]
  rintro e w6 ⟨v6, rfl, _, hb6⟩
  have hz6 := hb6.size
  (try simp at hz6)
  have hp6 : Below w5.heap.size w5 w6 := (by repeat (first | exact Below.refl _ _ | assumption | refine Below.drew ?_ | refine below_drewN ?_ _ | refine Below.alloc ?_ (by first | omega | (simp; try omega)) _ | refine Below.setCell ?_ (by first | omega | (simp; try omega)) _ | (refine Below.trans ?_ (Below.mono (by assumption) (by first | omega | (simp; try omega))))))
  have hy6 := hp6.size
  have hw6 : Below w.heap.size w w6 := hw5.trans (hp6.mono (by have := hw5.size; omega))
  replace hbad := hbad.to hp6
  clear hb6 hz6 hp6
  go_wp2_with fail
  refine (snap_Roots _ 2 _ badL _ (hbad.to (by repeat (first | exact Below.refl _ _ | assumption | refine Below.drew ?_ | refine below_drewN ?_ _ | refine Below.alloc ?_ (by first | omega | (simp; try omega)) _ | refine Below.setCell ?_ (by first | omega | (simp; try omega)) _ | (refine Below.trans ?_ (Below.mono (by assumption) (by first | omega | (simp; try omega)))))))).mono ?_
  rw [bad_roots]
  rintro e w7 ⟨v7, rfl, _, hb7⟩
  have hz7 := hb7.size
  (try simp at hz7)
  have hp7 : Below w6.heap.size w6 w7 := (by repeat (first | exact Below.refl _ _ | assumption | refine Below.drew ?_ | refine below_drewN ?_ _ | refine Below.alloc ?_ (by first | omega | (simp; try omega)) _ | refine Below.setCell ?_ (by first | omega | (simp; try omega)) _ | (refine Below.trans ?_ (Below.mono (by assumption) (by first | omega | (simp; try omega))))))
  have hy7 := hp7.size
  have hw7 : Below w.heap.size w w7 := hw6.trans (hp7.mono (by have := hw6.size; omega))
  replace hbad := hbad.to hp7
  clear hb7 hz7 hp7
  go_wp2_with fail
  clear hbad
  refine (many_row 32 (by decide) _).mono ?_
  rintro e w8 ⟨A8, n8, c8, rfl, hr8, hb8⟩
  have hz8 := hb8.size
  (try simp at hz8)
  have hp8 : Below w7.heap.size w7 w8 := (by repeat (first | exact Below.refl _ _ | assumption | refine Below.drew ?_ | refine below_drewN ?_ _ | refine Below.alloc ?_ (by first | omega | (simp; try omega)) _ | refine Below.setCell ?_ (by first | omega | (simp; try omega)) _ | (refine Below.trans ?_ (Below.mono (by assumption) (by first | omega | (simp; try omega))))))
  have hy8 := hp8.size
  have hw8 : Below w.heap.size w w8 := hw7.trans (hp8.mono (by have := hw7.size; omega))
  have m1 := hr8
  clear hb8 hz8 hp8
  go_wp2_with fail
  refine (one_lit 33 0 97 _).mono ?_
  rintro e w9 ⟨rfl, hb9⟩
  have hz9 := hb9.size
  (try simp at hz9)
  have hp9 : Below w8.heap.size w8 w9 := (by repeat (first | exact Below.refl _ _ | assumption | refine Below.drew ?_ | refine below_drewN ?_ _ | refine Below.alloc ?_ (by first | omega | (simp; try omega)) _ | refine Below.setCell ?_ (by first | omega | (simp; try omega)) _ | (refine Below.trans ?_ (Below.mono (by assumption) (by first | omega | (simp; try omega))))))
  have hy9 := hp9.size
  have hw9 : Below w.heap.size w w9 := hw8.trans (hp9.mono (by have := hw8.size; omega))
  replace m1 := m1.to hp9
  clear hb9 hz9 hp9
  go_wp2_with fail
  refine (snap_Add A8 n8 c8 (manyL 32) (oneSnap 33 0 97) _ (m1.to (by repeat (first | exact Below.refl _ _ | assumption | refine Below.drew ?_ | refine below_drewN ?_ _ | refine Below.alloc ?_ (by first | omega | (simp; try omega)) _ | refine Below.setCell ?_ (by first | omega | (simp; try omega)) _ | (refine Below.trans ?_ (Below.mono (by assumption) (by first | omega | (simp; try omega)))))))).mono ?_
  rw [add33]
  rintro e w10 ⟨v10, rfl, _, hb10⟩
  have hz10 := hb10.size
  (try simp at hz10)
  have hp10 : Below w9.heap.size w9 w10 := (by repeat (first | exact Below.refl _ _ | assumption | refine Below.drew ?_ | refine below_drewN ?_ _ | refine Below.alloc ?_ (by first | omega | (simp; try omega)) _ | refine Below.setCell ?_ (by first | omega | (simp; try omega)) _ | (refine Below.trans ?_ (Below.mono (by assumption) (by first | omega | (simp; try omega))))))
  have hy10 := hp10.size
  have hw10 : Below w.heap.size w w10 := hw9.trans (hp10.mono (by have := hw9.size; omega))
  replace m1 := m1.to hp10
  clear hb10 hz10 hp10
  go_wp2_with fail
  clear m1
  refine (many_row 32 (by decide) _).mono ?_
  rintro e w11 ⟨A11, n11, c11, rfl, hr11, hb11⟩
  have hz11 := hb11.size
  (try simp at hz11)
  have hp11 : Below w10.heap.size w10 w11 := (by repeat (first | exact Below.refl _ _ | assumption | refine Below.drew ?_ | refine below_drewN ?_ _ | refine Below.alloc ?_ (by first | omega | (simp; try omega)) _ | refine Below.setCell ?_ (by first | omega | (simp; try omega)) _ | (refine Below.trans ?_ (Below.mono (by assumption) (by first | omega | (simp; try omega))))))
  have hy11 := hp11.size
  have hw11 : Below w.heap.size w w11 := hw10.trans (hp11.mono (by have := hw10.size; omega))
  have m2 := hr11
  clear hb11 hz11 hp11
  go_wp2_with fail
  refine (one_lit 32 0 97 _).mono ?_
  rintro e w12 ⟨rfl, hb12⟩
  have hz12 := hb12.size
  (try simp at hz12)
  have hp12 : Below w11.heap.size w11 w12 := (by repeat (first | exact Below.refl _ _ | assumption | refine Below.drew ?_ | refine below_drewN ?_ _ | refine Below.alloc ?_ (by first | omega | (simp; try omega)) _ | refine Below.setCell ?_ (by first | omega | (simp; try omega)) _ | (refine Below.trans ?_ (Below.mono (by assumption) (by first | omega | (simp; try omega))))))
  have hy12 := hp12.size
  have hw12 : Below w.heap.size w w12 := hw11.trans (hp12.mono (by have := hw11.size; omega))
  replace m2 := m2.to hp12
  clear hb12 hz12 hp12
  go_wp2_with fail
  refine (snap_Add A11 n11 c11 (manyL 32) (oneSnap 32 0 97) _ (m2.to (by repeat (first | exact Below.refl _ _ | assumption | refine Below.drew ?_ | refine below_drewN ?_ _ | refine Below.alloc ?_ (by first | omega | (simp; try omega)) _ | refine Below.setCell ?_ (by first | omega | (simp; try omega)) _ | (refine Below.trans ?_ (Below.mono (by assumption) (by first | omega | (simp; try omega)))))))).mono ?_
  rw [add32]
  rintro e w13 ⟨v13, rfl, _, hb13⟩
  have hz13 := hb13.size
  (try simp at hz13)
  have hp13 : Below w12.heap.size w12 w13 := (by repeat (first | exact Below.refl _ _ | assumption | refine Below.drew ?_ | refine below_drewN ?_ _ | refine Below.alloc ?_ (by first | omega | (simp; try omega)) _ | refine Below.setCell ?_ (by first | omega | (simp; try omega)) _ | (refine Below.trans ?_ (Below.mono (by assumption) (by first | omega | (simp; try omega))))))
  have hy13 := hp13.size
  have hw13 : Below w.heap.size w w13 := hw12.trans (hp13.mono (by have := hw12.size; omega))
  replace m2 := m2.to hp13
  clear hb13 hz13 hp13
  go_wp2_with fail
  clear m2
  refine (many_row 31 (by decide) _).mono ?_
  rintro e w14 ⟨A14, n14, c14, rfl, hr14, hb14⟩
  have hz14 := hb14.size
  (try simp at hz14)
  have hp14 : Below w13.heap.size w13 w14 := (by repeat (first | exact Below.refl _ _ | assumption | refine Below.drew ?_ | refine below_drewN ?_ _ | refine Below.alloc ?_ (by first | omega | (simp; try omega)) _ | refine Below.setCell ?_ (by first | omega | (simp; try omega)) _ | (refine Below.trans ?_ (Below.mono (by assumption) (by first | omega | (simp; try omega))))))
  have hy14 := hp14.size
  have hw14 : Below w.heap.size w w14 := hw13.trans (hp14.mono (by have := hw13.size; omega))
  have m3 := hr14
  clear hb14 hz14 hp14
  go_wp2_with fail
  refine (one_lit 2147483647 1099511627776 97 _).mono ?_
  rintro e w15 ⟨rfl, hb15⟩
  have hz15 := hb15.size
  (try simp at hz15)
  have hp15 : Below w14.heap.size w14 w15 := (by repeat (first | exact Below.refl _ _ | assumption | refine Below.drew ?_ | refine below_drewN ?_ _ | refine Below.alloc ?_ (by first | omega | (simp; try omega)) _ | refine Below.setCell ?_ (by first | omega | (simp; try omega)) _ | (refine Below.trans ?_ (Below.mono (by assumption) (by first | omega | (simp; try omega))))))
  have hy15 := hp15.size
  have hw15 : Below w.heap.size w w15 := hw14.trans (hp15.mono (by have := hw14.size; omega))
  replace m3 := m3.to hp15
  clear hb15 hz15 hp15
  go_wp2_with fail
  refine (snap_Add A14 n14 c14 (manyL 31) bigSnap _ (m3.to (by repeat (first | exact Below.refl _ _ | assumption | refine Below.drew ?_ | refine below_drewN ?_ _ | refine Below.alloc ?_ (by first | omega | (simp; try omega)) _ | refine Below.setCell ?_ (by first | omega | (simp; try omega)) _ | (refine Below.trans ?_ (Below.mono (by assumption) (by first | omega | (simp; try omega)))))))).mono ?_
  rw [add31]
  rintro e w16 ⟨v16, rfl, ho16, hb16⟩
  have hz16 := hb16.size
  (try simp at hz16)
  have hp16 : Below w15.heap.size w15 w16 := (by repeat (first | exact Below.refl _ _ | assumption | refine Below.drew ?_ | refine below_drewN ?_ _ | refine Below.alloc ?_ (by first | omega | (simp; try omega)) _ | refine Below.setCell ?_ (by first | omega | (simp; try omega)) _ | (refine Below.trans ?_ (Below.mono (by assumption) (by first | omega | (simp; try omega))))))
  have hy16 := hp16.size
  have hw16 : Below w.heap.size w w16 := hw15.trans (hp16.mono (by have := hw15.size; omega))
  replace m3 := m3.to hp16
  clear hb16 hz16 hp16
  clear m3
  obtain ⟨Ag, ng, cg, rfl, hgr⟩ := ho16.view Snap.len
  obtain rfl : ng = 32 := by have h1 := hgr.1; simpa [manyL] using h1.symm
  clear ho16 hgr
  go_wp2_with fail
  refine (many_row 32 (by decide) _).mono ?_
  rintro e w17 ⟨A17, n17, c17, rfl, hr17, hb17⟩
  have hz17 := hb17.size
  (try simp at hz17)
  have hp17 : Below w16.heap.size w16 w17 := (by repeat (first | exact Below.refl _ _ | assumption | refine Below.drew ?_ | refine below_drewN ?_ _ | refine Below.alloc ?_ (by first | omega | (simp; try omega)) _ | refine Below.setCell ?_ (by first | omega | (simp; try omega)) _ | (refine Below.trans ?_ (Below.mono (by assumption) (by first | omega | (simp; try omega))))))
  have hy17 := hp17.size
  have hw17 : Below w.heap.size w w17 := hw16.trans (hp17.mono (by have := hw16.size; omega))
  have m4 := hr17
  clear hb17 hz17 hp17
  go_wp2_with fail
  refine (snap_Find' A17 n17 c17 (manyL 32) _ (m4.to (by repeat (first | exact Below.refl _ _ | assumption | refine Below.drew ?_ | refine below_drewN ?_ _ | refine Below.alloc ?_ (by first | omega | (simp; try omega)) _ | refine Below.setCell ?_ (by first | omega | (simp; try omega)) _ | (refine Below.trans ?_ (Below.mono (by assumption) (by first | omega | (simp; try omega))))))) 32).mono ?_
  rw [find32]
  simp only [Snap.agg, oneSnap]
  rintro e w18 ⟨rfl, hb18⟩
  have hz18 := hb18.size
  (try simp at hz18)
  have hp18 : Below w17.heap.size w17 w18 := (by repeat (first | exact Below.refl _ _ | assumption | refine Below.drew ?_ | refine below_drewN ?_ _ | refine Below.alloc ?_ (by first | omega | (simp; try omega)) _ | refine Below.setCell ?_ (by first | omega | (simp; try omega)) _ | (refine Below.trans ?_ (Below.mono (by assumption) (by first | omega | (simp; try omega))))))
  have hy18 := hp18.size
  have hw18 : Below w.heap.size w w18 := hw17.trans (hp18.mono (by have := hw17.size; omega))
  replace m4 := m4.to hp18
  clear hb18 hz18 hp18
  go_wp2_with fail
  clear m4
  refine (many_row 32 (by decide) _).mono ?_
  rintro e w19 ⟨A19, n19, c19, rfl, hr19, hb19⟩
  have hz19 := hb19.size
  (try simp at hz19)
  have hp19 : Below w18.heap.size w18 w19 := (by repeat (first | exact Below.refl _ _ | assumption | refine Below.drew ?_ | refine below_drewN ?_ _ | refine Below.alloc ?_ (by first | omega | (simp; try omega)) _ | refine Below.setCell ?_ (by first | omega | (simp; try omega)) _ | (refine Below.trans ?_ (Below.mono (by assumption) (by first | omega | (simp; try omega))))))
  have hy19 := hp19.size
  have hw19 : Below w.heap.size w w19 := hw18.trans (hp19.mono (by have := hw18.size; omega))
  have m5 := hr19
  have ci : w19.cell? ⟨w18.heap.size, 0, none⟩ = some (.int .i64 32) := by rw [hb19.cell (p := ⟨_, _, none⟩) (by simp)]; go_simp
  have li : w18.heap.size < w19.heap.size := by omega
  clear hb19 hz19 hp19
  go_wp2_with fail
  refine (snap_Find' A19 n19 c19 (manyL 32) _ (m5.to (by repeat (first | exact Below.refl _ _ | assumption | refine Below.drew ?_ | refine below_drewN ?_ _ | refine Below.alloc ?_ (by first | omega | (simp; try omega)) _ | refine Below.setCell ?_ (by first | omega | (simp; try omega)) _ | (refine Below.trans ?_ (Below.mono (by assumption) (by first | omega | (simp; try omega))))))) 33).mono ?_
  rw [find33]
  simp only [Snap.agg, Snap.zero]
  rintro e w20 ⟨rfl, hb20⟩
  have hz20 := hb20.size
  (try simp at hz20)
  have hp20 : Below w19.heap.size w19 w20 := (by repeat (first | exact Below.refl _ _ | assumption | refine Below.drew ?_ | refine below_drewN ?_ _ | refine Below.alloc ?_ (by first | omega | (simp; try omega)) _ | refine Below.setCell ?_ (by first | omega | (simp; try omega)) _ | (refine Below.trans ?_ (Below.mono (by assumption) (by first | omega | (simp; try omega))))))
  have hy20 := hp20.size
  have hw20 : Below w.heap.size w w20 := hw19.trans (hp20.mono (by have := hw19.size; omega))
  replace m5 := m5.to hp20
  replace ci := (hp20.cell (p := ⟨w18.heap.size, 0, none⟩) (show w18.heap.size < w19.heap.size by omega)).trans ci
  clear hb20 hz20 hp20
  go_wp2_with fail
  clear m5
  refine (snap_Find' none 0 0 [] _ RowAt.none_ 0).mono ?_
  rw [find0]
  simp only [Snap.agg, Snap.zero]
  rintro e w21 ⟨rfl, hb21⟩
  have hz21 := hb21.size
  (try simp at hz21)
  have hp21 : Below w20.heap.size w20 w21 := (by repeat (first | exact Below.refl _ _ | assumption | refine Below.drew ?_ | refine below_drewN ?_ _ | refine Below.alloc ?_ (by first | omega | (simp; try omega)) _ | refine Below.setCell ?_ (by first | omega | (simp; try omega)) _ | (refine Below.trans ?_ (Below.mono (by assumption) (by first | omega | (simp; try omega))))))
  have hy21 := hp21.size
  have hw21 : Below w.heap.size w w21 := hw20.trans (hp21.mono (by have := hw20.size; omega))
  replace ci := (hp21.cell (p := ⟨w18.heap.size, 0, none⟩) (show w18.heap.size < w20.heap.size by omega)).trans ci
  clear hb21 hz21 hp21
  go_wp2_with fail
  refine (one_lit 1 0 99 _).mono ?_
  rintro e w22 ⟨rfl, hb22⟩
  have hz22 := hb22.size
  (try simp at hz22)
  have hp22 : Below w21.heap.size w21 w22 := (by repeat (first | exact Below.refl _ _ | assumption | refine Below.drew ?_ | refine below_drewN ?_ _ | refine Below.alloc ?_ (by first | omega | (simp; try omega)) _ | refine Below.setCell ?_ (by first | omega | (simp; try omega)) _ | (refine Below.trans ?_ (Below.mono (by assumption) (by first | omega | (simp; try omega))))))
  have hy22 := hp22.size
  have hw22 : Below w.heap.size w w22 := hw21.trans (hp22.mono (by have := hw21.size; omega))
  replace ci := (hp22.cell (p := ⟨w18.heap.size, 0, none⟩) (show w18.heap.size < w21.heap.size by omega)).trans ci
  clear hb22 hz22 hp22
  go_wp2_with fail
  refine (one_lit 2 0 97 _).mono ?_
  rintro e w23 ⟨rfl, hb23⟩
  have hz23 := hb23.size
  (try simp at hz23)
  have hp23 : Below w22.heap.size w22 w23 := (by repeat (first | exact Below.refl _ _ | assumption | refine Below.drew ?_ | refine below_drewN ?_ _ | refine Below.alloc ?_ (by first | omega | (simp; try omega)) _ | refine Below.setCell ?_ (by first | omega | (simp; try omega)) _ | (refine Below.trans ?_ (Below.mono (by assumption) (by first | omega | (simp; try omega))))))
  have hy23 := hp23.size
  have hw23 : Below w.heap.size w w23 := hw22.trans (hp23.mono (by have := hw22.size; omega))
  replace ci := (hp23.cell (p := ⟨w18.heap.size, 0, none⟩) (show w18.heap.size < w22.heap.size by omega)).trans ci
  clear hb23 hz23 hp23
  go_wp2_with fail
  refine (one_lit 3 0 99 _).mono ?_
  rintro e w24 ⟨rfl, hb24⟩
  have hz24 := hb24.size
  (try simp at hz24)
  have hp24 : Below w23.heap.size w23 w24 := (by repeat (first | exact Below.refl _ _ | assumption | refine Below.drew ?_ | refine below_drewN ?_ _ | refine Below.alloc ?_ (by first | omega | (simp; try omega)) _ | refine Below.setCell ?_ (by first | omega | (simp; try omega)) _ | (refine Below.trans ?_ (Below.mono (by assumption) (by first | omega | (simp; try omega))))))
  have hy24 := hp24.size
  have hw24 : Below w.heap.size w w24 := hw23.trans (hp24.mono (by have := hw23.size; omega))
  replace ci := (hp24.cell (p := ⟨w18.heap.size, 0, none⟩) (show w18.heap.size < w23.heap.size by omega)).trans ci
  clear hb24 hz24 hp24
  go_wp2_with fail
  have h3 : SnapsAt (w24.alloc (.cells #[.int .i64 1, .int .i64 0, .string (letterRoot 99), .int .i64 2, .int .i64 0, .string (letterRoot 97), .int .i64 3, .int .i64 0, .string (letterRoot 99)] 24)) (w24.heap.size + 1) (some ⟨w24.heap.size, 0, none⟩) 3 threeR := by
    refine ⟨rfl, by omega, fun _ => ⟨_, _, rfl, by omega, fun i x hx j v hv => ?_⟩⟩
    rcases i with _ | _ | _ | i <;> simp [threeR] at hx <;> subst hx <;> rcases j with _ | _ | _ | j <;> simp [Snap.cells, oneSnap] at hv <;> subst hv <;> go_simp
  refine (snap_Roots _ 3 _ threeR _ (by simpa using h3)).mono ?_
  rw [three_roots]
  rintro e w25 ⟨v25, rfl, ho25, hb25⟩
  have hz25 := hb25.size
  (try simp at hz25)
  have hp25 : Below w24.heap.size w24 w25 := (by repeat (first | exact Below.refl _ _ | assumption | refine Below.drew ?_ | refine below_drewN ?_ _ | refine Below.alloc ?_ (by first | omega | (simp; try omega)) _ | refine Below.setCell ?_ (by first | omega | (simp; try omega)) _ | (refine Below.trans ?_ (Below.mono (by assumption) (by first | omega | (simp; try omega))))))
  have hy25 := hp25.size
  have hw25 : Below w.heap.size w w25 := hw24.trans (hp25.mono (by have := hw24.size; omega))
  replace ci := (hp25.cell (p := ⟨w18.heap.size, 0, none⟩) (show w18.heap.size < w24.heap.size by omega)).trans ci
  clear hb25 hz25 hp25
  clear h3
  obtain ⟨Ar, nr, cr, rfl, hrr⟩ := ho25.view strCell_len
  obtain rfl : nr = 2 := by have h1 := hrr.1; simpa using h1.symm
  obtain ⟨br, fr, rfl, hbr0⟩ := hrr.addrOf (i := 0) (by decide)
  have r0 := hrr.strAt (i := 0) rfl
  simp only [Nat.add_zero] at r0
  have r1 := hrr.strAt (i := 1) rfl
  clear ho25
  go_wp2_with fail
  clear ci hrr r0 r1
  refine (many_row 32 (by decide) _).mono ?_
  rintro e w26 ⟨A26, n26, c26, rfl, hr26, hb26⟩
  have hz26 := hb26.size
  (try simp at hz26)
  have hp26 : Below w25.heap.size w25 w26 := (by repeat (first | exact Below.refl _ _ | assumption | refine Below.drew ?_ | refine below_drewN ?_ _ | refine Below.alloc ?_ (by first | omega | (simp; try omega)) _ | refine Below.setCell ?_ (by first | omega | (simp; try omega)) _ | (refine Below.trans ?_ (Below.mono (by assumption) (by first | omega | (simp; try omega))))))
  have hy26 := hp26.size
  have hw26 : Below w.heap.size w w26 := hw25.trans (hp26.mono (by have := hw25.size; omega))
  have m6 := hr26
  clear hb26 hz26 hp26
  go_wp2_with fail
  refine (snap_May A26 n26 c26 (manyL 32) _ (m6.to (by repeat (first | exact Below.refl _ _ | assumption | refine Below.drew ?_ | refine below_drewN ?_ _ | refine Below.alloc ?_ (by first | omega | (simp; try omega)) _ | refine Below.setCell ?_ (by first | omega | (simp; try omega)) _ | (refine Below.trans ?_ (Below.mono (by assumption) (by first | omega | (simp; try omega)))))))).mono ?_
  rw [may32]
  rintro e w27 ⟨rfl, hb27⟩
  have hz27 := hb27.size
  (try simp at hz27)
  have hp27 : Below w26.heap.size w26 w27 := (by repeat (first | exact Below.refl _ _ | assumption | refine Below.drew ?_ | refine below_drewN ?_ _ | refine Below.alloc ?_ (by first | omega | (simp; try omega)) _ | refine Below.setCell ?_ (by first | omega | (simp; try omega)) _ | (refine Below.trans ?_ (Below.mono (by assumption) (by first | omega | (simp; try omega))))))
  have hy27 := hp27.size
  have hw27 : Below w.heap.size w w27 := hw26.trans (hp27.mono (by have := hw26.size; omega))
  replace m6 := m6.to hp27
  clear hb27 hz27 hp27
  go_wp2_with fail
  clear m6
  refine (many_row 33 (by decide) _).mono ?_
  rintro e w28 ⟨A28, n28, c28, rfl, hr28, hb28⟩
  have hz28 := hb28.size
  (try simp at hz28)
  have hp28 : Below w27.heap.size w27 w28 := (by repeat (first | exact Below.refl _ _ | assumption | refine Below.drew ?_ | refine below_drewN ?_ _ | refine Below.alloc ?_ (by first | omega | (simp; try omega)) _ | refine Below.setCell ?_ (by first | omega | (simp; try omega)) _ | (refine Below.trans ?_ (Below.mono (by assumption) (by first | omega | (simp; try omega))))))
  have hy28 := hp28.size
  have hw28 : Below w.heap.size w w28 := hw27.trans (hp28.mono (by have := hw27.size; omega))
  have m7 := hr28
  clear hb28 hz28 hp28
  go_wp2_with fail
  refine (snap_May A28 n28 c28 (manyL 33) _ (m7.to (by repeat (first | exact Below.refl _ _ | assumption | refine Below.drew ?_ | refine below_drewN ?_ _ | refine Below.alloc ?_ (by first | omega | (simp; try omega)) _ | refine Below.setCell ?_ (by first | omega | (simp; try omega)) _ | (refine Below.trans ?_ (Below.mono (by assumption) (by first | omega | (simp; try omega)))))))).mono ?_
  rw [may33]
  rintro e w29 ⟨rfl, hb29⟩
  have hz29 := hb29.size
  (try simp at hz29)
  have hp29 : Below w28.heap.size w28 w29 := (by repeat (first | exact Below.refl _ _ | assumption | refine Below.drew ?_ | refine below_drewN ?_ _ | refine Below.alloc ?_ (by first | omega | (simp; try omega)) _ | refine Below.setCell ?_ (by first | omega | (simp; try omega)) _ | (refine Below.trans ?_ (Below.mono (by assumption) (by first | omega | (simp; try omega))))))
  have hy29 := hp29.size
  have hw29 : Below w.heap.size w w29 := hw28.trans (hp29.mono (by have := hw28.size; omega))
  replace m7 := m7.to hp29
  clear hb29 hz29 hp29
  go_wp2_with fail
  clear m7
  refine (snap_May none 0 0 [] _ RowAt.none_).mono ?_
  rw [may_nil]
  rintro e w30 ⟨rfl, hb30⟩
  have hz30 := hb30.size
  (try simp at hz30)
  have hp30 : Below w29.heap.size w29 w30 := (by repeat (first | exact Below.refl _ _ | assumption | refine Below.drew ?_ | refine below_drewN ?_ _ | refine Below.alloc ?_ (by first | omega | (simp; try omega)) _ | refine Below.setCell ?_ (by first | omega | (simp; try omega)) _ | (refine Below.trans ?_ (Below.mono (by assumption) (by first | omega | (simp; try omega))))))
  have hy30 := hp30.size
  have hw30 : Below w.heap.size w w30 := hw29.trans (hp30.mono (by have := hw29.size; omega))
  clear hb30 hz30 hp30
  go_wp2_with fail
  refine (one_lit 0 0 97 _).mono ?_
  rintro e w31 ⟨rfl, hb31⟩
  have hz31 := hb31.size
  (try simp at hz31)
  have hp31 : Below w30.heap.size w30 w31 := (by repeat (first | exact Below.refl _ _ | assumption | refine Below.drew ?_ | refine below_drewN ?_ _ | refine Below.alloc ?_ (by first | omega | (simp; try omega)) _ | refine Below.setCell ?_ (by first | omega | (simp; try omega)) _ | (refine Below.trans ?_ (Below.mono (by assumption) (by first | omega | (simp; try omega))))))
  have hy31 := hp31.size
  have hw31 : Below w.heap.size w w31 := hw30.trans (hp31.mono (by have := hw30.size; omega))
  clear hb31 hz31 hp31
  go_wp2_with fail
  refine (snap_MayOne ⟨0, 0, letterRoot 97⟩ _).mono ?_
  rw [one_0]
  rintro e w32 ⟨rfl, hb32⟩
  have hz32 := hb32.size
  (try simp at hz32)
  have hp32 : Below w31.heap.size w31 w32 := (by repeat (first | exact Below.refl _ _ | assumption | refine Below.drew ?_ | refine below_drewN ?_ _ | refine Below.alloc ?_ (by first | omega | (simp; try omega)) _ | refine Below.setCell ?_ (by first | omega | (simp; try omega)) _ | (refine Below.trans ?_ (Below.mono (by assumption) (by first | omega | (simp; try omega))))))
  have hy32 := hp32.size
  have hw32 : Below w.heap.size w w32 := hw31.trans (hp32.mono (by have := hw31.size; omega))
  clear hb32 hz32 hp32
  go_wp2_with fail
  refine (one_lit 2147483648 0 97 _).mono ?_
  rintro e w33 ⟨rfl, hb33⟩
  have hz33 := hb33.size
  (try simp at hz33)
  have hp33 : Below w32.heap.size w32 w33 := (by repeat (first | exact Below.refl _ _ | assumption | refine Below.drew ?_ | refine below_drewN ?_ _ | refine Below.alloc ?_ (by first | omega | (simp; try omega)) _ | refine Below.setCell ?_ (by first | omega | (simp; try omega)) _ | (refine Below.trans ?_ (Below.mono (by assumption) (by first | omega | (simp; try omega))))))
  have hy33 := hp33.size
  have hw33 : Below w.heap.size w w33 := hw32.trans (hp33.mono (by have := hw32.size; omega))
  clear hb33 hz33 hp33
  go_wp2_with fail
  refine (snap_MayOne ⟨2147483648, 0, letterRoot 97⟩ _).mono ?_
  rw [one_big]
  rintro e w34 ⟨rfl, hb34⟩
  have hz34 := hb34.size
  (try simp at hz34)
  have hp34 : Below w33.heap.size w33 w34 := (by repeat (first | exact Below.refl _ _ | assumption | refine Below.drew ?_ | refine below_drewN ?_ _ | refine Below.alloc ?_ (by first | omega | (simp; try omega)) _ | refine Below.setCell ?_ (by first | omega | (simp; try omega)) _ | (refine Below.trans ?_ (Below.mono (by assumption) (by first | omega | (simp; try omega))))))
  have hy34 := hp34.size
  have hw34 : Below w.heap.size w w34 := hw33.trans (hp34.mono (by have := hw33.size; omega))
  clear hb34 hz34 hp34
  go_wp2_with fail
  refine (one_lit 1 (-1) 97 _).mono ?_
  rintro e w35 ⟨rfl, hb35⟩
  have hz35 := hb35.size
  (try simp at hz35)
  have hp35 : Below w34.heap.size w34 w35 := (by repeat (first | exact Below.refl _ _ | assumption | refine Below.drew ?_ | refine below_drewN ?_ _ | refine Below.alloc ?_ (by first | omega | (simp; try omega)) _ | refine Below.setCell ?_ (by first | omega | (simp; try omega)) _ | (refine Below.trans ?_ (Below.mono (by assumption) (by first | omega | (simp; try omega))))))
  have hy35 := hp35.size
  have hw35 : Below w.heap.size w w35 := hw34.trans (hp35.mono (by have := hw34.size; omega))
  clear hb35 hz35 hp35
  go_wp2_with fail
  refine (snap_MayOne ⟨1, -1, letterRoot 97⟩ _).mono ?_
  rw [one_neg]
  rintro e w36 ⟨rfl, hb36⟩
  have hz36 := hb36.size
  (try simp at hz36)
  have hp36 : Below w35.heap.size w35 w36 := (by repeat (first | exact Below.refl _ _ | assumption | refine Below.drew ?_ | refine below_drewN ?_ _ | refine Below.alloc ?_ (by first | omega | (simp; try omega)) _ | refine Below.setCell ?_ (by first | omega | (simp; try omega)) _ | (refine Below.trans ?_ (Below.mono (by assumption) (by first | omega | (simp; try omega))))))
  have hy36 := hp36.size
  have hw36 : Below w.heap.size w w36 := hw35.trans (hp36.mono (by have := hw35.size; omega))
  clear hb36 hz36 hp36
  go_wp2_with fail
  refine (one_lit 1 1099511627777 97 _).mono ?_
  rintro e w37 ⟨rfl, hb37⟩
  have hz37 := hb37.size
  (try simp at hz37)
  have hp37 : Below w36.heap.size w36 w37 := (by repeat (first | exact Below.refl _ _ | assumption | refine Below.drew ?_ | refine below_drewN ?_ _ | refine Below.alloc ?_ (by first | omega | (simp; try omega)) _ | refine Below.setCell ?_ (by first | omega | (simp; try omega)) _ | (refine Below.trans ?_ (Below.mono (by assumption) (by first | omega | (simp; try omega))))))
  have hy37 := hp37.size
  have hw37 : Below w.heap.size w w37 := hw36.trans (hp37.mono (by have := hw36.size; omega))
  clear hb37 hz37 hp37
  go_wp2_with fail
  refine (snap_MayOne ⟨1, 1099511627777, letterRoot 97⟩ _).mono ?_
  rw [one_late]
  rintro e w38 ⟨rfl, hb38⟩
  have hz38 := hb38.size
  (try simp at hz38)
  have hp38 : Below w37.heap.size w37 w38 := (by repeat (first | exact Below.refl _ _ | assumption | refine Below.drew ?_ | refine below_drewN ?_ _ | refine Below.alloc ?_ (by first | omega | (simp; try omega)) _ | refine Below.setCell ?_ (by first | omega | (simp; try omega)) _ | (refine Below.trans ?_ (Below.mono (by assumption) (by first | omega | (simp; try omega))))))
  have hy38 := hp38.size
  have hw38 : Below w.heap.size w w38 := hw37.trans (hp38.mono (by have := hw37.size; omega))
  clear hb38 hz38 hp38
  go_wp2_with fail
  refine (many_row 2 (by decide) _).mono ?_
  rintro e w39 ⟨A39, n39, c39, rfl, hr39, hb39⟩
  have hz39 := hb39.size
  (try simp at hz39)
  have hp39 : Below w38.heap.size w38 w39 := (by repeat (first | exact Below.refl _ _ | assumption | refine Below.drew ?_ | refine below_drewN ?_ _ | refine Below.alloc ?_ (by first | omega | (simp; try omega)) _ | refine Below.setCell ?_ (by first | omega | (simp; try omega)) _ | (refine Below.trans ?_ (Below.mono (by assumption) (by first | omega | (simp; try omega))))))
  have hy39 := hp39.size
  have hw39 : Below w.heap.size w w39 := hw38.trans (hp39.mono (by have := hw38.size; omega))
  have m8 := hr39
  clear hb39 hz39 hp39
  go_wp2_with fail
  refine (many_row 2 (by decide) _).mono ?_
  rintro e w40 ⟨A40, n40, c40, rfl, hr40, hb40⟩
  have hz40 := hb40.size
  (try simp at hz40)
  have hp40 : Below w39.heap.size w39 w40 := (by repeat (first | exact Below.refl _ _ | assumption | refine Below.drew ?_ | refine below_drewN ?_ _ | refine Below.alloc ?_ (by first | omega | (simp; try omega)) _ | refine Below.setCell ?_ (by first | omega | (simp; try omega)) _ | (refine Below.trans ?_ (Below.mono (by assumption) (by first | omega | (simp; try omega))))))
  have hy40 := hp40.size
  have hw40 : Below w.heap.size w w40 := hw39.trans (hp40.mono (by have := hw39.size; omega))
  replace m8 := m8.to hp40
  have m9 := hr40
  clear hb40 hz40 hp40
  go_wp2_with fail
  refine (snap_Same A39 A40 n39 n40 c39 c40 (manyL 2) (manyL 2) _ (m8.to (by repeat (first | exact Below.refl _ _ | assumption | refine Below.drew ?_ | refine below_drewN ?_ _ | refine Below.alloc ?_ (by first | omega | (simp; try omega)) _ | refine Below.setCell ?_ (by first | omega | (simp; try omega)) _ | (refine Below.trans ?_ (Below.mono (by assumption) (by first | omega | (simp; try omega))))))) (m9.to (by repeat (first | exact Below.refl _ _ | assumption | refine Below.drew ?_ | refine below_drewN ?_ _ | refine Below.alloc ?_ (by first | omega | (simp; try omega)) _ | refine Below.setCell ?_ (by first | omega | (simp; try omega)) _ | (refine Below.trans ?_ (Below.mono (by assumption) (by first | omega | (simp; try omega)))))))).mono ?_
  rw [same22]
  rintro e w41 ⟨rfl, hb41⟩
  have hz41 := hb41.size
  (try simp at hz41)
  have hp41 : Below w40.heap.size w40 w41 := (by repeat (first | exact Below.refl _ _ | assumption | refine Below.drew ?_ | refine below_drewN ?_ _ | refine Below.alloc ?_ (by first | omega | (simp; try omega)) _ | refine Below.setCell ?_ (by first | omega | (simp; try omega)) _ | (refine Below.trans ?_ (Below.mono (by assumption) (by first | omega | (simp; try omega))))))
  have hy41 := hp41.size
  have hw41 : Below w.heap.size w w41 := hw40.trans (hp41.mono (by have := hw40.size; omega))
  replace m8 := m8.to hp41
  replace m9 := m9.to hp41
  clear hb41 hz41 hp41
  go_wp2_with fail
  clear m8
  clear m9
  refine (many_row 2 (by decide) _).mono ?_
  rintro e w42 ⟨A42, n42, c42, rfl, hr42, hb42⟩
  have hz42 := hb42.size
  (try simp at hz42)
  have hp42 : Below w41.heap.size w41 w42 := (by repeat (first | exact Below.refl _ _ | assumption | refine Below.drew ?_ | refine below_drewN ?_ _ | refine Below.alloc ?_ (by first | omega | (simp; try omega)) _ | refine Below.setCell ?_ (by first | omega | (simp; try omega)) _ | (refine Below.trans ?_ (Below.mono (by assumption) (by first | omega | (simp; try omega))))))
  have hy42 := hp42.size
  have hw42 : Below w.heap.size w w42 := hw41.trans (hp42.mono (by have := hw41.size; omega))
  have m10 := hr42
  clear hb42 hz42 hp42
  go_wp2_with fail
  refine (many_row 1 (by decide) _).mono ?_
  rintro e w43 ⟨A43, n43, c43, rfl, hr43, hb43⟩
  have hz43 := hb43.size
  (try simp at hz43)
  have hp43 : Below w42.heap.size w42 w43 := (by repeat (first | exact Below.refl _ _ | assumption | refine Below.drew ?_ | refine below_drewN ?_ _ | refine Below.alloc ?_ (by first | omega | (simp; try omega)) _ | refine Below.setCell ?_ (by first | omega | (simp; try omega)) _ | (refine Below.trans ?_ (Below.mono (by assumption) (by first | omega | (simp; try omega))))))
  have hy43 := hp43.size
  have hw43 : Below w.heap.size w w43 := hw42.trans (hp43.mono (by have := hw42.size; omega))
  replace m10 := m10.to hp43
  have m11 := hr43
  clear hb43 hz43 hp43
  go_wp2_with fail
  refine (snap_Same A42 A43 n42 n43 c42 c43 (manyL 2) (manyL 1) _ (m10.to (by repeat (first | exact Below.refl _ _ | assumption | refine Below.drew ?_ | refine below_drewN ?_ _ | refine Below.alloc ?_ (by first | omega | (simp; try omega)) _ | refine Below.setCell ?_ (by first | omega | (simp; try omega)) _ | (refine Below.trans ?_ (Below.mono (by assumption) (by first | omega | (simp; try omega))))))) (m11.to (by repeat (first | exact Below.refl _ _ | assumption | refine Below.drew ?_ | refine below_drewN ?_ _ | refine Below.alloc ?_ (by first | omega | (simp; try omega)) _ | refine Below.setCell ?_ (by first | omega | (simp; try omega)) _ | (refine Below.trans ?_ (Below.mono (by assumption) (by first | omega | (simp; try omega)))))))).mono ?_
  rw [same21]
  rintro e w44 ⟨rfl, hb44⟩
  have hz44 := hb44.size
  (try simp at hz44)
  have hp44 : Below w43.heap.size w43 w44 := (by repeat (first | exact Below.refl _ _ | assumption | refine Below.drew ?_ | refine below_drewN ?_ _ | refine Below.alloc ?_ (by first | omega | (simp; try omega)) _ | refine Below.setCell ?_ (by first | omega | (simp; try omega)) _ | (refine Below.trans ?_ (Below.mono (by assumption) (by first | omega | (simp; try omega))))))
  have hy44 := hp44.size
  have hw44 : Below w.heap.size w w44 := hw43.trans (hp44.mono (by have := hw43.size; omega))
  replace m10 := m10.to hp44
  replace m11 := m11.to hp44
  clear hb44 hz44 hp44
  go_wp2_with fail
  clear m10
  clear m11
  go_ret
  exact ⟨rfl, hw44⟩

set_option maxRecDepth 100000 in
theorem snapNames_lifted (os : Os) (started : os.Started) (H : Type) (enc : TypeId × Value → H) :
    ReturnsInHanded {} Try.checked os 6 .any (Rows.snapNamesSpec.pre6 enc Try.prog Try.f6 Rows.snapNamesRow.domain false) (Rows.snapNamesSpec.post enc Try.prog Try.f6 false true false false) := by
  refine law_lifted started (by kernel_rfl) Try.func6 rfl rfl ?_ (by kernel_rfl)
    (ChangeSpec.witness6 (enc := enc) (C := Try.checked) false ⟨#[], #[], []⟩ 8 (by kernel_rfl) (by kernel_rfl) (by kernel_rfl) (by kernel_rfl)) ?_
  · intro ds hd
    match ds, hd with
    | [], _ => exact ⟨rfl, rfl, rfl⟩
  · intro W base args ds ps hval hA hlt
    rw [Try.params6] at hA
    obtain ⟨hargs, _, _⟩ := trodAll_nil hA
    have : args = #[] := by cases args; simp_all
    subst this
    exact snapNames_walk W

theorem snapNames_holds : Rows.SnapNamesSaid :=
  OpenClaim.holds_of_wide 6 Try.f6 rfl rfl rfl rfl rfl rfl rfl ⟨rfl, rfl, rfl, rfl, rfl⟩ rfl rfl rfl rfl rfl (by kernel_rfl) Try.func6 (by kernel_rfl)
    (of_decide_eq_true (by kernel_rfl)) (by unfold Func.isWrapper; rw [if_neg (of_decide_eq_false (by kernel_rfl))]; exact ⟨rfl, rfl⟩)
    (fun os started H enc _ => snapNames_lifted os started H enc)
#print axioms snapNames_holds
end Go.Proofs.Ytbhbkllclookhaa
