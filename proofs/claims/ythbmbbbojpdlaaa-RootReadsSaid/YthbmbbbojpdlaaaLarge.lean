/-
  The contract of large: is a state more than a statement goes through?
-/
import Derived.Test.YthbmbbbojpdlaaaLawSt
namespace Go.Proofs.Ythbmbbbojpdlaaa
open Go.RowKit
attribute [local go_sem ↓] Go.wp_at_zero Go.wp_at_succ

def largeB (v : Rws) : Bool := decide (1500 < v.n2 + v.n3) || decide (2000 < v.n1)
def Reach (v : Rws) : Prop := v.n1 ≤ reachBytes ∧ v.n2 ≤ reachBytes ∧ v.n3 ≤ reachBytes
theorem law23_large (v : Rws) (s : St) (w : World) (h : Reach v) : Calls Try.prog 18 #[v.val s] w fun e w' => e = .returned (.bool (largeB v)) ∧ Below w.heap.size w w' := by
  obtain ⟨k, n, next, sn, cs, ps⟩ := s
  obtain ⟨A1, n1, c1, A2, n2, c2, A3, n3, c3⟩ := v
  obtain ⟨h1, h2, h3⟩ := h
  simp only [reachBytes] at h1 h2 h3
  unfold Rws.val stv
  dsimp only
  have hr : Hid (largeB ⟨A1, n1, c1, A2, n2, c2, A3, n3, c3⟩ = (decide (1500 < n2 + n3) || decide (2000 < n1))) := rfl
  by_cases g1 : 1500 < n2 + n3
  · have g1' : decide (1500 < (n2 : Int) + (n3 : Int)) = true := by simp; omega
    go_enter Try.func18, Try.ntmps18
    go_wp2_with fail
    go_ret
    exact ⟨ret_bool (by rw [hr.out]; simp [g1]), (by repeat (first | exact Below.refl _ _ | assumption | refine Below.drew ?_ | refine below_drewN ?_ _ | refine Below.alloc ?_ (by first | omega | (simp; try omega)) _ | refine Below.setCell ?_ (by first | omega | (simp; try omega)) _ | (refine Below.trans ?_ (Below.mono (by assumption) (by first | omega | (simp; try omega))))))⟩
  · have g1' : decide (1500 < (n2 : Int) + (n3 : Int)) = false := by simp; omega
    by_cases g2 : 2000 < n1
    · have g2' : decide ((2000 : Int) < (n1 : Int)) = true := by simp; omega
      go_enter Try.func18, Try.ntmps18
      go_wp2_with fail
      go_ret
      exact ⟨ret_bool (by rw [hr.out]; simp [g2]), (by repeat (first | exact Below.refl _ _ | assumption | refine Below.drew ?_ | refine below_drewN ?_ _ | refine Below.alloc ?_ (by first | omega | (simp; try omega)) _ | refine Below.setCell ?_ (by first | omega | (simp; try omega)) _ | (refine Below.trans ?_ (Below.mono (by assumption) (by first | omega | (simp; try omega))))))⟩
    · have g2' : decide ((2000 : Int) < (n1 : Int)) = false := by simp; omega
      go_enter Try.func18, Try.ntmps18
      go_wp2_with fail
      go_ret
      exact ⟨ret_bool (by rw [hr.out]; simp [g1, g2]), (by repeat (first | exact Below.refl _ _ | assumption | refine Below.drew ?_ | refine below_drewN ?_ _ | refine Below.alloc ?_ (by first | omega | (simp; try omega)) _ | refine Below.setCell ?_ (by first | omega | (simp; try omega)) _ | (refine Below.trans ?_ (Below.mono (by assumption) (by first | omega | (simp; try omega))))))⟩

end Go.Proofs.Ythbmbbbojpdlaaa
