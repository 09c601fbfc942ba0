/-
  States: the contracts of root.May and of the reference's, of both MayCode.
-/
import Derived.Test.YtbfephekkfieaaaStA
import Derived.Test.YtbfephekkfieaaaSnapP
namespace Go.Proofs.Ytbfephekkfieaaa
open Go.RowKit
attribute [local go_sem ↓] Go.wp_at_zero Go.wp_at_succ

def mayCode (k n : Int) : Bool := decide (1 ≤ k) && decide (k ≤ n) && decide (n ≤ 12)
def mayState (s : St) : Bool := mayCode s.k s.n && mayL s.sn && mayIdx s.cs s.ps && decide (1 ≤ s.next) && decide (s.next ≤ 2147483648) && decide (lastOf s.sn s.sn.length < s.next)

theorem lastOf_cons {s : Snap} {l : List Snap} (h : l ≠ []) : lastOf (s :: l) (l.length + 1) = lastOf l l.length := by
  cases l with
  | nil => exact absurd rfl h
  | cons t l => simp [lastOf]
theorem lastOf_ge : ∀ {l : List Snap} {y : Int}, rising y l = true → ∀ t ∈ l, t.id ≤ lastOf l l.length
  | [], _, _ => by simp
  | s :: l, y, h => by
    have h' := h
    simp [rising] at h
    intro t ht
    by_cases hl : l = []
    · subst hl
      simp at ht
      subst ht
      simp [lastOf]
    · rw [List.length_cons, lastOf_cons hl]
      simp at ht
      rcases ht with rfl | ht
      · obtain ⟨u, hu⟩ := List.exists_mem_of_ne_nil l hl
        have := rising_gt h.2 u hu
        have := lastOf_ge h.2 u hu
        omega
      · exact lastOf_ge h.2 t ht

set_option maxHeartbeats 1000000 in
theorem matrix_MayCode (k n : Int) (w : World) : Calls Try.prog 46 #[.agg #[.int .i64 k, .int .i64 n]] w fun e w' => e = .returned (.bool (mayCode k n)) ∧ Below w.heap.size w w' := by
  go_enter Try.func46, Try.ntmps46
  go_wp2
  all_goals
    go_ret
    exact ⟨ret_bool (by rw [Bool.eq_iff_iff]; simp [mayCode]; omega), (by repeat (first | exact Below.refl _ _ | assumption | refine Below.drew ?_ | refine below_drewN ?_ _ | refine Below.alloc ?_ (by first | omega | (simp; try omega)) _ | refine Below.setCell ?_ (by first | omega | (simp; try omega)) _ | (refine Below.trans ?_ (Below.mono (by assumption) (by first | omega | (simp; try omega))))))⟩
set_option maxHeartbeats 4000000 in
theorem root_May (v : Rws) (s : St) (w : World) (h : StAt w w.heap.size v s) :
    Calls Try.prog 24 #[v.val s] w fun e w' => e = .returned (.bool (mayState s)) ∧ Below w.heap.size w w' := by
  obtain ⟨k, n, next, sn, cs, ps⟩ := s
  obtain ⟨A1, n1, c1, A2, n2, c2, A3, n3, c3⟩ := v
  obtain ⟨h1, h2, h3, hok⟩ := h
  dsimp only at h1 h2 h3 hok ⊢
  have b1 := h1.2.1
  have l1 := Lib.hid h1.1
  replace hok := Lib.hid hok
  unfold Rws.val stv
  go_enter Try.func24, Try.ntmps24
  go_wp2_with fail
  refine (matrix_MayCode k n _).mono ?_
  rintro e w1 ⟨rfl, hb1⟩
  have hz1 := hb1.size
  simp at hz1
  have hs : Hid (mayState ⟨k, n, next, sn, cs, ps⟩ = (mayCode k n && mayL sn && mayIdx cs ps && decide (1 ≤ next) && decide (next ≤ 2147483648) && decide (lastOf sn sn.length < next))) := rfl
  have e1 : Below (w.heap.size + 1) (w.alloc (stBox k n next A1 n1 c1 A2 n2 c2 A3 n3 c3)) w1 := hb1.mono (by simp)
  have f1 : Below w.heap.size w w1 := (Below.alloc (Below.refl _ _) (by omega) _).trans (e1.mono (by omega))
  obtain ⟨x0, x1, x2, x3, x4, x5⟩ := stBox_cells e1
  by_cases m1 : mayCode k n = true
  · rw [m1]
    go_wp2_with fail
    refine (snap_May A1 n1 c1 sn _ (h1.to f1)).mono ?_
    by_cases m2 : mayL sn = true
    · rw [m2]
      rintro e w2 ⟨rfl, hb2⟩
      have hz2 := hb2.size
      have e2 := e1.trans (hb2.mono (by omega))
      have f2 := f1.trans (hb2.mono (by omega))
      obtain ⟨y0, y1, y2, y3, y4, y5⟩ := stBox_cells e2
      go_wp2_with fail
      refine (index_May k n next A1 n1 c1 A2 n2 c2 A3 n3 c3 cs ps _ (h2.to f2) (h3.to f2) hok.out).mono ?_
      by_cases m3 : mayIdx cs ps = true
      · rw [m3]
        rintro e w3 ⟨rfl, hb3⟩
        have hz3 := hb3.size
        have e3 := e2.trans (hb3.mono (by omega))
        have f3 := f2.trans (hb3.mono (by omega))
        clear x0 x1 x2 x3 x4 x5 y0 y1 y2 y3 y4 y5
        obtain ⟨z0, z1, z2, z3, z4, z5⟩ := stBox_cells e3
        have hres : Hid (mayState ⟨k, n, next, sn, cs, ps⟩ = (decide (1 ≤ next) && decide (next ≤ 2147483648) && decide (lastOf sn sn.length < next))) := by
          unfold Hid
          rw [hs.out, m1, m2, m3]
          simp
        by_cases g1 : 1 ≤ next
        · have g1' : decide (next < 1) = false := by simp; omega
          by_cases g2 : next ≤ 2147483648
          · have g2' : decide (2147483648 < next) = false := by simp; omega
            replace hres : Hid (mayState ⟨k, n, next, sn, cs, ps⟩ = decide (lastOf sn sn.length < next)) := by
              unfold Hid
              rw [hres.out, decide_eq_true g1, decide_eq_true g2]
              simp
            by_cases h0 : n1 = 0
            · have hl0 : Hid (lastOf sn sn.length = 0) := by unfold Hid; rw [l1.out, h0]; rfl
              have q0 : ((n1 : Int) == 0) = true := by simp; omega
              replace h0 := Lib.hid h0
              go_wp2_with fail
              go_quiet (fail)
              go_wp2_with fail
              go_ret
              exact ⟨ret_bool (by rw [hres.out, hl0.out]; simp; omega), (by repeat (first | exact Below.refl _ _ | assumption | refine Below.drew ?_ | refine below_drewN ?_ _ | refine Below.alloc ?_ (by first | omega | (simp; try omega)) _ | refine Below.setCell ?_ (by first | omega | (simp; try omega)) _ | (refine Below.trans ?_ (Below.mono (by assumption) (by first | omega | (simp; try omega))))))⟩
            · have q0 : ((n1 : Int) == 0) = false := by simp; omega
              have hi0 : (0 : Int) ≤ (n1 : Int) - 1 := by omega
              have hi1 : (n1 : Int) - 1 < (n1 : Int) := by omega
              obtain ⟨b, off, t, rfl, hb, ht, r0, r1, r2⟩ := (h1.to f3).snap (i := n1 - 1) (by omega)
              have hl0 : Hid (lastOf sn sn.length = t.id) := by
                unfold Hid
                have := lastOf_succ ht
                rw [l1.out]
                rwa [Nat.sub_add_cancel (by omega)] at this
              replace ht := Lib.hid ht
              go_wp2_with fail
              go_quiet (fail)
              go_wp2_with fail
              go_ret
              exact ⟨ret_bool (by rw [hres.out, hl0.out]), (by repeat (first | exact Below.refl _ _ | assumption | refine Below.drew ?_ | refine below_drewN ?_ _ | refine Below.alloc ?_ (by first | omega | (simp; try omega)) _ | refine Below.setCell ?_ (by first | omega | (simp; try omega)) _ | (refine Below.trans ?_ (Below.mono (by assumption) (by first | omega | (simp; try omega))))))⟩
          · have g2' : decide (2147483648 < next) = true := by simp; omega
            go_wp2_with fail
            go_ret
            exact ⟨ret_bool (by rw [hres.out, decide_eq_false (by omega : ¬ next ≤ 2147483648)]; simp), (by repeat (first | exact Below.refl _ _ | assumption | refine Below.drew ?_ | refine below_drewN ?_ _ | refine Below.alloc ?_ (by first | omega | (simp; try omega)) _ | refine Below.setCell ?_ (by first | omega | (simp; try omega)) _ | (refine Below.trans ?_ (Below.mono (by assumption) (by first | omega | (simp; try omega))))))⟩
        · have g1' : decide (next < 1) = true := by simp; omega
          go_wp2_with fail
          go_ret
          exact ⟨ret_bool (by rw [hres.out, decide_eq_false (by omega : ¬ 1 ≤ next)]; simp), (by repeat (first | exact Below.refl _ _ | assumption | refine Below.drew ?_ | refine below_drewN ?_ _ | refine Below.alloc ?_ (by first | omega | (simp; try omega)) _ | refine Below.setCell ?_ (by first | omega | (simp; try omega)) _ | (refine Below.trans ?_ (Below.mono (by assumption) (by first | omega | (simp; try omega))))))⟩
      · replace m3 : mayIdx cs ps = false := by simpa using m3
        rw [m3]
        rintro e w3 ⟨rfl, hb3⟩
        go_wp2_with fail
        go_ret
        exact ⟨ret_bool (by rw [hs.out, m3]; simp), (by repeat (first | exact Below.refl _ _ | assumption | refine Below.drew ?_ | refine below_drewN ?_ _ | refine Below.alloc ?_ (by first | omega | (simp; try omega)) _ | refine Below.setCell ?_ (by first | omega | (simp; try omega)) _ | (refine Below.trans ?_ (Below.mono (by assumption) (by first | omega | (simp; try omega))))))⟩
    · replace m2 : mayL sn = false := by simpa using m2
      rw [m2]
      rintro e w2 ⟨rfl, hb2⟩
      go_wp2_with fail
      go_ret
      exact ⟨ret_bool (by rw [hs.out, m2]; simp), (by repeat (first | exact Below.refl _ _ | assumption | refine Below.drew ?_ | refine below_drewN ?_ _ | refine Below.alloc ?_ (by first | omega | (simp; try omega)) _ | refine Below.setCell ?_ (by first | omega | (simp; try omega)) _ | (refine Below.trans ?_ (Below.mono (by assumption) (by first | omega | (simp; try omega))))))⟩
  · replace m1 : mayCode k n = false := by simpa using m1
    rw [m1]
    go_wp2_with fail
    go_ret
    exact ⟨ret_bool (by rw [hs.out, m1]; simp), (by repeat (first | exact Below.refl _ _ | assumption | refine Below.drew ?_ | refine below_drewN ?_ _ | refine Below.alloc ?_ (by first | omega | (simp; try omega)) _ | refine Below.setCell ?_ (by first | omega | (simp; try omega)) _ | (refine Below.trans ?_ (Below.mono (by assumption) (by first | omega | (simp; try omega))))))⟩

end Go.Proofs.Ytbfephekkfieaaa
