/-
  cmp.Compare at strings and ints, cmp.Or, and index.byPack, in worlds that only draw and grow.
-/
import Derived.Test.YtbfephekkfieaaaPlaceA
namespace Go.Proofs.Ytbfephekkfieaaa
open Go.RowKit Go.Sort
attribute [local go_sem ↓] Go.wp_at_zero Go.wp_at_succ

def cmpS (a b : ByteArray) : Int := if sLt a b then -1 else if sLt b a then 1 else 0
def cmpI (a b : Int) : Int := if a < b then -1 else if b < a then 1 else 0
def byPack (p q : Place) : Int := if cmpS p.pack q.pack = 0 then cmpI p.at_ q.at_ else cmpS p.pack q.pack

theorem isNaN_int (a : Int) (w : World) : Calls Try.prog 66 #[.int .i64 a] w fun e w' => e = .returned (.bool false) ∧ w = w' := by
  go_enter Try.func66, Try.ntmps66
  go_wp2
  go_ret
  exact ⟨ret_bool (by simp), rfl⟩
theorem isNaN_str (a : ByteArray) (w : World) : Calls Try.prog 92 #[.string a] w fun e w' => e = .returned (.bool false) ∧ w = w' := by
  go_enter Try.func92, Try.ntmps92
  go_wp2
  go_ret
  exact ⟨ret_bool (by simp), rfl⟩
set_option maxHeartbeats 1000000 in
theorem compare_int (a b : Int) (w : World) : Calls Try.prog 45 #[.int .i64 a, .int .i64 b] w fun e w' => e = .returned (.int .i64 (cmpI a b)) ∧ w = w' := by
  obtain ⟨r, hr⟩ : ∃ r, r = cmpI a b := ⟨_, rfl⟩
  rw [← hr]
  unfold cmpI at hr
  by_cases h1 : a < b
  · obtain rfl : r = -1 := by rw [hr, if_pos h1]
    clear hr
    go_enter Try.func45, Try.ntmps45
    go_wp2_with (first | (go_at_call 66; refine (isNaN_int _ _).mono ?_; rintro e w' ⟨rfl, rfl⟩))
    go_ret
    exact ⟨rfl, rfl⟩
  · by_cases h2 : b < a
    · obtain rfl : r = 1 := by rw [hr, if_neg h1, if_pos h2]
      clear hr
      go_enter Try.func45, Try.ntmps45
      go_wp2_with (first | (go_at_call 66; refine (isNaN_int _ _).mono ?_; rintro e w' ⟨rfl, rfl⟩))
      go_ret
      exact ⟨rfl, rfl⟩
    · obtain rfl : r = 0 := by rw [hr, if_neg h1, if_neg h2]
      clear hr
      go_enter Try.func45, Try.ntmps45
      go_wp2_with (first | (go_at_call 66; refine (isNaN_int _ _).mono ?_; rintro e w' ⟨rfl, rfl⟩))
      go_ret
      exact ⟨rfl, rfl⟩
set_option maxHeartbeats 1000000 in
theorem compare_str (a b : ByteArray) (w : World) : Calls Try.prog 75 #[.string a, .string b] w fun e w' => e = .returned (.int .i64 (cmpS a b)) ∧ w = w' := by
  obtain ⟨r, hr⟩ : ∃ r, r = cmpS a b := ⟨_, rfl⟩
  rw [← hr]
  unfold cmpS at hr
  rcases sLt_tri a b with h1 | h1 | h1
  · obtain rfl : r = -1 := by rw [hr, if_pos h1]
    have q1 : Op.bytesLess a.toList b.toList = true := h1
    clear hr h1
    go_enter Try.func75, Try.ntmps75
    go_wp2_with (first | (go_at_call 92; refine (isNaN_str _ _).mono ?_; rintro e w' ⟨rfl, rfl⟩))
    go_ret
    exact ⟨rfl, rfl⟩
  · obtain rfl : r = 0 := by rw [hr, h1, sLt_irrefl]; rfl
    have q1 : Op.bytesLess a.toList b.toList = false := by rw [h1]; exact sLt_irrefl b
    have q2 := str_eq h1
    clear hr h1
    go_enter Try.func75, Try.ntmps75
    go_wp2_with (first | (go_at_call 92; refine (isNaN_str _ _).mono ?_; rintro e w' ⟨rfl, rfl⟩))
    go_ret
    exact ⟨rfl, rfl⟩
  · obtain rfl : r = 1 := by rw [hr, sLt_asymm h1, if_pos h1]; rfl
    have q1 : Op.bytesLess a.toList b.toList = false := sLt_asymm h1
    have q2 := str_ne (Ne.symm (sLt_ne h1))
    clear hr h1
    go_enter Try.func75, Try.ntmps75
    go_wp2_with (first | (go_at_call 92; refine (isNaN_str _ _).mono ?_; rintro e w' ⟨rfl, rfl⟩))
    go_ret
    exact ⟨rfl, rfl⟩
set_option maxHeartbeats 1000000 in
theorem cmp_Or (g c : Nat) (x y r : Int) (hr : Hid (r = if x = 0 then y else x)) (w : World) (h0 : w.cell? ⟨g, 0, none⟩ = some (.int .i64 x)) (h1 : w.cell? ⟨g, 1, none⟩ = some (.int .i64 y)) :
    Calls Try.prog 74 #[.slice (some ⟨g, 0, none⟩) 2 c] w fun e w' => e = .returned (.int .i64 r) ∧ w = w' := by
  go_enter Try.func74, Try.ntmps74
  go_wp2
  go_loop [8] (fun i => ∃ k : Nat, k ≤ 2 ∧ i = .int .i64 k ∧ (0 < k → Hid (x = 0)) ∧ (1 < k → Hid (y = 0))) (fun i => 2 - (intOf i).toNat)
  case atStart => exact ⟨0, by omega, rfl, fun h => absurd h (by omega), fun h => absurd h (by omega)⟩
  case round =>
    obtain ⟨k, hk, rfl, hx0, hy0⟩ := hrel
    by_cases hk0 : k = 0
    · subst hk0
      by_cases hx : x = 0
      · have hq : (x != 0) = false := by simpa using hx
        replace hx := Lib.hid hx
        go_wp2_with fail
        go_round
        case rel => exact ⟨1, by omega, rfl, fun _ => hx, fun h => absurd h (by omega)⟩
        case measure => simp [intOf]
      · have hq : (x != 0) = true := by simpa using hx
        replace hx := Lib.hid hx
        go_wp2_with fail
        go_ret
        exact ⟨ret_int (by rw [hr.out, if_neg hx.out]), rfl⟩
    · have hxz := hx0 (by omega)
      by_cases hk1 : k = 1
      · subst hk1
        by_cases hy : y = 0
        · have hq : (y != 0) = false := by simpa using hy
          replace hy := Lib.hid hy
          clear hk0 hx0 hy0
          go_wp2_with fail
          go_round
          case rel => exact ⟨2, by omega, rfl, fun _ => hxz, fun _ => hy⟩
          case measure => simp [intOf]
        · have hq : (y != 0) = true := by simpa using hy
          replace hy := Lib.hid hy
          clear hk0 hx0 hy0
          go_wp2_with fail
          go_ret
          exact ⟨ret_int (by rw [hr.out, if_pos hxz.out]), rfl⟩
      · obtain rfl : k = 2 := by omega
        have hyz := hy0 (by omega)
        clear hk0 hx0 hy0 hk1
        go_wp2_with fail
        go_ret
        exact ⟨ret_int (by rw [hr.out, if_pos hxz.out, hyz.out]), rfl⟩

set_option maxHeartbeats 2000000 in
theorem byPack_any (p q : Place) (w : World) : Calls Try.prog 60 #[p.agg, q.agg] w fun e w' => e = .returned (.int .i64 (byPack p q)) ∧ Gr w w' := by
  unfold Place.agg
  obtain ⟨r, hr⟩ : ∃ r, r = byPack p q := ⟨_, rfl⟩
  rw [← hr]
  replace hr : Hid (r = if cmpS p.pack q.pack = 0 then cmpI p.at_ q.at_ else cmpS p.pack q.pack) := hr
  go_enter Try.func60, Try.ntmps60
  go_wp2_with fail
  go_region_held3 (fun W : World => w.heap.size + 2 ≤ W.heap.size ∧ W.cell? ⟨w.heap.size, 0, none⟩ = some (.string p.pack) ∧ W.cell? ⟨w.heap.size, 1, none⟩ = some (.int .i64 p.at_) ∧ W.cell? ⟨w.heap.size + 1, 0, none⟩ = some (.string q.pack) ∧ W.cell? ⟨w.heap.size + 1, 1, none⟩ = some (.int .i64 q.at_))
    (go_simp)
    (first
      | (go_at_call 75; refine (compare_str _ _ _).mono ?_; rintro e w1 ⟨rfl, rfl⟩)
      | (go_at_call 45; refine (compare_int _ _ _).mono ?_; rintro e w1 ⟨rfl, rfl⟩)
      | (go_at_call 74; refine (cmp_Or _ _ (cmpS p.pack q.pack) (cmpI p.at_ q.at_) r hr _ (by go_simp) (by go_simp)).mono ?_; rintro e w1 ⟨rfl, rfl⟩))
  all_goals
    go_wp2_with fail
    go_ret
    exact ⟨rfl, by repeat (first | exact Gr.refl _ | refine Gr.drew ?_ | refine Gr.drewN ?_ _ | refine Gr.alloc ?_ _)⟩
end Go.Proofs.Ytbfephekkfieaaa
