/-
  The contracts of snap.MayOne, snap.May, and of the references' MayOne, May.
-/
import Derived.Test.YtdhlmhkabckbaaaGreatDoorBase
namespace Go.Proofs.YtdhlmhkabckbaaaGreatDoor
open Go.RowKit

def mayOne (s : Snap) : Bool := decide (1 ≤ s.id) && decide (s.id ≤ 2147483647) && decide (0 ≤ s.time) && decide (s.time ≤ 1099511627776) && decide (s.root.size = 32)
def rising (last : Int) : List Snap → Bool
  | [] => true
  | s :: l => mayOne s && decide (last < s.id) && rising s.id l
def mayL (l : List Snap) : Bool := rising 0 l && decide (l.length ≤ 32)
def sameL (l l' : List Snap) : Bool := decide (l = l')

set_option maxHeartbeats 400000 in
theorem snap_MayOne (s : Snap) (w : World) :
    Calls Tryz.prog 62 #[s.agg] w fun e w' => e = .returned (.bool (mayOne s)) ∧ Below w.heap.size w w' := by
  unfold Snap.agg
  go_enter Tryz.func62, Tryz.ntmps62
  go_wp2
  all_goals
    go_ret
    exact ⟨ret_bool (by rw [Bool.eq_iff_iff]; simp [mayOne, *]; try omega), (by repeat (first | exact Below.refl _ _ | assumption | refine Below.drew ?_ | refine below_drewN ?_ _ | refine Below.alloc ?_ (by first | omega | (simp; try omega)) _ | refine Below.setCell ?_ (by first | omega | (simp; try omega)) _ | (refine Below.trans ?_ (Below.mono (by assumption) (by first | omega | (simp; try omega))))))⟩
set_option maxHeartbeats 400000 in
theorem snap_May (A : Option Addr) (n c : Nat) (l : List Snap) (w : World) (h : SnapsAt w w.heap.size A n l) :
    Calls Tryz.prog 33 #[.slice A n c] w fun e w' => e = .returned (.bool (mayL l)) ∧ Below w.heap.size w w' := by
  have hn := h.2.1
  have hl := Lib.hid h.1
  go_enter Tryz.func33, Tryz.ntmps33
  go_wp2
  go_loopw [3, 8] (fun z i wr => ∃ k : Nat, ∃ y : Int, k ≤ n ∧ i = .int .i64 k ∧ z = .int .i64 y ∧ Hid (rising 0 l = rising y (l.drop k)) ∧ Below w.heap.size w wr) (fun _ i _ => n - (intOf i).toNat)
  case atStart => exact ⟨0, 0, Nat.zero_le _, rfl, rfl, rfl, Below.refl _ _⟩
  case round =>
    obtain ⟨k, y, hk, rfl, rfl, hr, hbw⟩ := hrel
    by_cases hlt : k < n
    · obtain ⟨b, off, s, rfl, hb1, hx, h0, h1, h2⟩ := (h.below hbw).snap hlt
      have hd := Lib.hid (drop_cons hx)
      clear hx
      have hs := hbw.size
      cases hm : mayOne s
      · go_wp2_with (go_at_call 62; refine (snap_MayOne s _).mono ?_; rintro e w1 ⟨rfl, hbw1⟩; obtain ⟨hcw1, hfw1⟩ := bcell hbw1; (try simp only [World.size_drew, World.cell?_drew, World.frozen?_drew, World.heap_drewN, World.cell?_drewN, World.frozen?_drewN] at hcw1 hfw1); have hzw1 := hbw1.size; (try simp at hzw1); (try have hlw1 := (by omega : w.heap.size < w1.heap.size)); (try have hmw1 := (by omega : w.heap.size + 1 < w1.heap.size)); (try have hnw1 := (by omega : w.heap.size + 1 + 1 < w1.heap.size)))
        go_ret
        exact ⟨ret_bool (by simp [mayL, hr.out, hd.out, rising, hm]), (by repeat (first | exact Below.refl _ _ | assumption | refine Below.drew ?_ | refine below_drewN ?_ _ | refine Below.alloc ?_ (by first | omega | (simp; try omega)) _ | refine Below.setCell ?_ (by first | omega | (simp; try omega)) _ | (refine Below.trans ?_ (Below.mono (by assumption) (by first | omega | (simp; try omega))))))⟩
      · by_cases hy : y < s.id
        · go_wp2_with (go_at_call 62; refine (snap_MayOne s _).mono ?_; rintro e w1 ⟨rfl, hbw1⟩; obtain ⟨hcw1, hfw1⟩ := bcell hbw1; (try simp only [World.size_drew, World.cell?_drew, World.frozen?_drew, World.heap_drewN, World.cell?_drewN, World.frozen?_drewN] at hcw1 hfw1); have hzw1 := hbw1.size; (try simp at hzw1); (try have hlw1 := (by omega : w.heap.size < w1.heap.size)); (try have hmw1 := (by omega : w.heap.size + 1 < w1.heap.size)); (try have hnw1 := (by omega : w.heap.size + 1 + 1 < w1.heap.size)))
          go_roundw
          case rel => exact ⟨k + 1, s.id, by omega, by go_num, rfl, by rw [Hid, hr.out, hd.out, rising, hm]; simp [hy], (by repeat (first | exact Below.refl _ _ | assumption | refine Below.drew ?_ | refine below_drewN ?_ _ | refine Below.alloc ?_ (by first | omega | (simp; try omega)) _ | refine Below.setCell ?_ (by first | omega | (simp; try omega)) _ | (refine Below.trans ?_ (Below.mono (by assumption) (by first | omega | (simp; try omega))))))⟩
          case measure => simp [intOf]; omega
        · go_wp2_with (go_at_call 62; refine (snap_MayOne s _).mono ?_; rintro e w1 ⟨rfl, hbw1⟩; obtain ⟨hcw1, hfw1⟩ := bcell hbw1; (try simp only [World.size_drew, World.cell?_drew, World.frozen?_drew, World.heap_drewN, World.cell?_drewN, World.frozen?_drewN] at hcw1 hfw1); have hzw1 := hbw1.size; (try simp at hzw1); (try have hlw1 := (by omega : w.heap.size < w1.heap.size)); (try have hmw1 := (by omega : w.heap.size + 1 < w1.heap.size)); (try have hnw1 := (by omega : w.heap.size + 1 + 1 < w1.heap.size)))
          go_ret
          exact ⟨ret_bool (by rw [mayL, hr.out, hd.out, rising, hm, decide_eq_false (by omega : ¬ y < s.id)]; simp), (by repeat (first | exact Below.refl _ _ | assumption | refine Below.drew ?_ | refine below_drewN ?_ _ | refine Below.alloc ?_ (by first | omega | (simp; try omega)) _ | refine Below.setCell ?_ (by first | omega | (simp; try omega)) _ | (refine Below.trans ?_ (Below.mono (by assumption) (by first | omega | (simp; try omega))))))⟩
    · go_wp2
      go_ret
      exact ⟨ret_bool (by have := hl.out; rw [mayL, hr.out, List.drop_eq_nil_of_le (by omega), h.1]; simp [rising]; omega), (by repeat (first | exact Below.refl _ _ | assumption | refine Below.drew ?_ | refine below_drewN ?_ _ | refine Below.alloc ?_ (by first | omega | (simp; try omega)) _ | refine Below.setCell ?_ (by first | omega | (simp; try omega)) _ | (refine Below.trans ?_ (Below.mono (by assumption) (by first | omega | (simp; try omega))))))⟩

/-- Behind which ID the k-th stands. -/
def lastOf (l : List Snap) : Nat → Int
  | 0 => 0
  | k + 1 => match l[k]? with | some s => s.id | none => 0
theorem lastOf_succ {l : List Snap} {k : Nat} {s : Snap} (h : l[k]? = some s) : lastOf l (k + 1) = s.id := by rw [lastOf, h]
theorem mayOne_pos {s : Snap} (h : mayOne s = true) : 0 < s.id := by simp [mayOne] at h; omega
theorem rising_no {y : Int} {l r : List Snap} {s : Snap} (hd : r = s :: l) (h : mayOne s = false ∨ ¬ y < s.id) : rising y r = false := by
  subst hd; rcases h with h | h <;> simp [rising, h]
theorem rising_yes {y : Int} {l r : List Snap} {s : Snap} (hd : r = s :: l) (h : mayOne s = true) (h' : y < s.id) : rising y r = rising s.id l := by
  subst hd; simp [rising, h, h']
theorem mayL_no {l : List Snap} (h : rising 0 l = false) : false = mayL l := by simp [mayL, h]

end Go.Proofs.YtdhlmhkabckbaaaGreatDoor
