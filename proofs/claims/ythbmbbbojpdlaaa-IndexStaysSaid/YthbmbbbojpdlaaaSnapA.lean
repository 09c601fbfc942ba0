/-
  The contracts of snap.MayOne, snap.May, and of the references' MayOne, May.
-/
import Derived.Test.YthbmbbbojpdlaaaBase
namespace Go.Proofs.Ythbmbbbojpdlaaa
open Go.RowKit

def mayOne (s : Snap) : Bool := decide (1 ≤ s.id) && decide (s.id ≤ 2147483647) && decide (0 ≤ s.time) && decide (s.time ≤ 1099511627776) && decide (s.root.size = 32)
def rising (last : Int) : List Snap → Bool
  | [] => true
  | s :: l => mayOne s && decide (last < s.id) && rising s.id l
def mayL (l : List Snap) : Bool := rising 0 l && decide (l.length ≤ 32)
def sameL (l l' : List Snap) : Bool := decide (l = l')

set_option maxHeartbeats 400000 in
theorem snap_MayOne (s : Snap) (w : World) :
    Calls Try.prog 80 #[s.agg] w fun e w' => e = .returned (.bool (mayOne s)) ∧ Below w.heap.size w w' := by
  unfold Snap.agg
  go_enter Try.func80, Try.ntmps80
  go_wp2
  all_goals
    go_ret
    exact ⟨ret_bool (by rw [Bool.eq_iff_iff]; simp [mayOne, *]; try omega), (by repeat (first | exact Below.refl _ _ | assumption | refine Below.drew ?_ | refine below_drewN ?_ _ | refine Below.alloc ?_ (by first | omega | (simp; try omega)) _ | refine Below.setCell ?_ (by first | omega | (simp; try omega)) _ | (refine Below.trans ?_ (Below.mono (by assumption) (by first | omega | (simp; try omega))))))⟩
set_option maxHeartbeats 400000 in
theorem ref21_MayOne (s : Snap) (w : World) :
    Calls Try.prog 81 #[s.agg] w fun e w' => e = .returned (.bool (mayOne s)) ∧ Below w.heap.size w w' := by
  unfold Snap.agg
  go_enter Try.func81, Try.ntmps81
  go_wp2
  all_goals
    go_ret
    exact ⟨ret_bool (by rw [Bool.eq_iff_iff]; simp [mayOne, *]; try omega), (by repeat (first | exact Below.refl _ _ | assumption | refine Below.drew ?_ | refine below_drewN ?_ _ | refine Below.alloc ?_ (by first | omega | (simp; try omega)) _ | refine Below.setCell ?_ (by first | omega | (simp; try omega)) _ | (refine Below.trans ?_ (Below.mono (by assumption) (by first | omega | (simp; try omega))))))⟩

set_option maxHeartbeats 400000 in
theorem snap_May (A : Option Addr) (n c : Nat) (l : List Snap) (w : World) (h : SnapsAt w w.heap.size A n l) :
    Calls Try.prog 58 #[.slice A n c] w fun e w' => e = .returned (.bool (mayL l)) ∧ Below w.heap.size w w' := by
  have hn := h.2.1
  have hl := Lib.hid h.1
  go_enter Try.func58, Try.ntmps58
  go_wp2
  go_loopw [3, 8] (fun z i wr => ∃ k : Nat, ∃ y : Int, k ≤ n ∧ i = .int .i64 k ∧ z = .int .i64 y ∧ Hid (rising 0 l = rising y (l.drop k)) ∧ Below w.heap.size w wr) (fun _ i _ => n - (intOf i).toNat)
  case atStart => exact ⟨0, 0, Nat.zero_le _, rfl, rfl, rfl, Below.refl _ _⟩
  case round =>
    obtain ⟨k, y, hk, rfl, rfl, hr, hbw⟩ := hrel
    by_cases hlt : k < n
    · obtain ⟨b, off, s, rfl, hb1, hx, h0, h1, h2⟩ := (h.below hbw).snap hlt
      have hd := Lib.hid (drop_cons hx)
      clear hx
      have hs := hbw.size
      cases hm : mayOne s
      · go_wp2_with (go_at_call 80; refine (snap_MayOne s _).mono ?_; rintro e w1 ⟨rfl, hbw1⟩; obtain ⟨hcw1, hfw1⟩ := bcell hbw1; (try simp only [World.size_drew, World.cell?_drew, World.frozen?_drew, World.heap_drewN, World.cell?_drewN, World.frozen?_drewN] at hcw1 hfw1); have hzw1 := hbw1.size; (try simp at hzw1); (try have hlw1 := (by omega : w.heap.size < w1.heap.size)); (try have hmw1 := (by omega : w.heap.size + 1 < w1.heap.size)); (try have hnw1 := (by omega : w.heap.size + 1 + 1 < w1.heap.size)))
        go_ret
        exact ⟨ret_bool (by simp [mayL, hr.out, hd.out, rising, hm]), (by repeat (first | exact Below.refl _ _ | assumption | refine Below.drew ?_ | refine below_drewN ?_ _ | refine Below.alloc ?_ (by first | omega | (simp; try omega)) _ | refine Below.setCell ?_ (by first | omega | (simp; try omega)) _ | (refine Below.trans ?_ (Below.mono (by assumption) (by first | omega | (simp; try omega))))))⟩
      · by_cases hy : y < s.id
        · go_wp2_with (go_at_call 80; refine (snap_MayOne s _).mono ?_; rintro e w1 ⟨rfl, hbw1⟩; obtain ⟨hcw1, hfw1⟩ := bcell hbw1; (try simp only [World.size_drew, World.cell?_drew, World.frozen?_drew, World.heap_drewN, World.cell?_drewN, World.frozen?_drewN] at hcw1 hfw1); have hzw1 := hbw1.size; (try simp at hzw1); (try have hlw1 := (by omega : w.heap.size < w1.heap.size)); (try have hmw1 := (by omega : w.heap.size + 1 < w1.heap.size)); (try have hnw1 := (by omega : w.heap.size + 1 + 1 < w1.heap.size)))
          go_roundw
          case rel => exact ⟨k + 1, s.id, by omega, by go_num, rfl, by rw [Hid, hr.out, hd.out, rising, hm]; simp [hy], (by repeat (first | exact Below.refl _ _ | assumption | refine Below.drew ?_ | refine below_drewN ?_ _ | refine Below.alloc ?_ (by first | omega | (simp; try omega)) _ | refine Below.setCell ?_ (by first | omega | (simp; try omega)) _ | (refine Below.trans ?_ (Below.mono (by assumption) (by first | omega | (simp; try omega))))))⟩
          case measure => simp [intOf]; omega
        · go_wp2_with (go_at_call 80; refine (snap_MayOne s _).mono ?_; rintro e w1 ⟨rfl, hbw1⟩; obtain ⟨hcw1, hfw1⟩ := bcell hbw1; (try simp only [World.size_drew, World.cell?_drew, World.frozen?_drew, World.heap_drewN, World.cell?_drewN, World.frozen?_drewN] at hcw1 hfw1); have hzw1 := hbw1.size; (try simp at hzw1); (try have hlw1 := (by omega : w.heap.size < w1.heap.size)); (try have hmw1 := (by omega : w.heap.size + 1 < w1.heap.size)); (try have hnw1 := (by omega : w.heap.size + 1 + 1 < w1.heap.size)))
          go_ret
          exact ⟨ret_bool (by rw [mayL, hr.out, hd.out, rising, hm, decide_eq_false (by omega : ¬ y < s.id)]; simp), (by repeat (first | exact Below.refl _ _ | assumption | refine Below.drew ?_ | refine below_drewN ?_ _ | refine Below.alloc ?_ (by first | omega | (simp; try omega)) _ | refine Below.setCell ?_ (by first | omega | (simp; try omega)) _ | (refine Below.trans ?_ (Below.mono (by assumption) (by first | omega | (simp; try omega))))))⟩
    · go_wp2
      go_ret
      exact ⟨ret_bool (by have := hl.out; rw [mayL, hr.out, List.drop_eq_nil_of_le (by omega), h.1]; simp [rising]; omega), (by repeat (first | exact Below.refl _ _ | assumption | refine Below.drew ?_ | refine below_drewN ?_ _ | refine Below.alloc ?_ (by first | omega | (simp; try omega)) _ | refine Below.setCell ?_ (by first | omega | (simp; try omega)) _ | (refine Below.trans ?_ (Below.mono (by assumption) (by first | omega | (simp; try omega))))))⟩

/-- Behind which ID the k-th stands. -/
def lastOf (l : List Snap) : Nat → Int
  | 0 => 0
  | k + 1 => match l[k]? with | some s => s.id | none => 0
theorem lastOf_succ {l : List Snap} {k : Nat} {s : Snap} (h : l[k]? = some s) : lastOf l (k + 1) = s.id := by rw [lastOf, h]
theorem mayOne_pos {s : Snap} (h : mayOne s = true) : 0 < s.id := by simp [mayOne] at h; omega
theorem rising_no {y : Int} {l r : List Snap} {s : Snap} (hd : r = s :: l) (h : mayOne s = false ∨ ¬ y < s.id) : rising y r = false := by
  subst hd; rcases h with h | h <;> simp [rising, h]
theorem rising_yes {y : Int} {l r : List Snap} {s : Snap} (hd : r = s :: l) (h : mayOne s = true) (h' : y < s.id) : rising y r = rising s.id l := by
  subst hd; simp [rising, h, h']
theorem mayL_no {l : List Snap} (h : rising 0 l = false) : false = mayL l := by simp [mayL, h]

set_option maxHeartbeats 400000 in
theorem ref21_May (A : Option Addr) (n c : Nat) (l : List Snap) (w : World) (h : SnapsAt w w.heap.size A n l) :
    Calls Try.prog 60 #[.slice A n c] w fun e w' => e = .returned (.bool (mayL l)) ∧ Below w.heap.size w w' := by
  have hn := h.2.1
  have hl := Lib.hid h.1
  by_cases hlen : n ≤ 32
  · go_enter Try.func60, Try.ntmps60
    go_wp2
    go_loopw [3] (fun i wr => ∃ k : Nat, k ≤ n ∧ i = .int .i64 k ∧ Hid (rising 0 l = rising (lastOf l k) (l.drop k)) ∧ Below w.heap.size w wr) (fun i _ => n - (intOf i).toNat)
    case atStart => exact ⟨0, Nat.zero_le _, rfl, rfl, Below.refl _ _⟩
    case round =>
      obtain ⟨k, hk, rfl, hr, hbw⟩ := hrel
      by_cases hlt : k < n
      · obtain ⟨b, off, s, rfl, hb1, hx, h0, h1, h2⟩ := (h.below hbw).snap hlt
        have hs := hbw.size
        have hb2 : b < wr.heap.size := by omega
        have hd := Lib.hid (drop_cons hx)
        cases hm : mayOne s
        · clear hx
          go_wp2
          (refine wp_region_ext (wr.heap.size) (by kernel_rfl) (by kernel_rfl) ?_
           repeat (go_big_quiet_step ((go_at_call 81; refine Calls.ext (Nat.le_refl _) (ref21_MayOne s _))))
           refine wpQuiet_nil ?_
           intro w1 hw'
           have hbw1 := Ext.of hw'
           clear hw'
           obtain ⟨hcw1, hfw1⟩ := bcell hbw1; (try simp only [World.size_drew, World.cell?_drew, World.frozen?_drew, World.heap_drewN, World.cell?_drewN, World.frozen?_drewN] at hcw1 hfw1); have hzw1 := hbw1.size; (try simp at hzw1); (try have hlw1 := (by omega : w.heap.size < w1.heap.size)); (try have hmw1 := (by omega : w.heap.size + 1 < w1.heap.size)); (try have hnw1 := (by omega : w.heap.size + 1 + 1 < w1.heap.size)))
          go_wp2
          go_ret
          exact ⟨ret_bool (mayL_no (hr.out.trans (rising_no hd.out (.inl hm)))), (by repeat (first | exact Below.refl _ _ | assumption | refine Below.drew ?_ | refine below_drewN ?_ _ | refine Below.alloc ?_ (by first | omega | (simp; try omega)) _ | refine Below.setCell ?_ (by first | omega | (simp; try omega)) _ | (refine Below.trans ?_ (Below.mono (by assumption) (by first | omega | (simp; try omega))))))⟩
        · have hsucc := Lib.hid (lastOf_succ hx)
          by_cases hk0 : 0 < k
          · obtain ⟨s', hx', h0', h1', h2'⟩ := (h.below hbw).snapAt (i := k - 1) (by omega)
            have hlo : lastOf l k = s'.id := by obtain ⟨j, rfl⟩ : ∃ j, k = j + 1 := ⟨k - 1, by omega⟩; exact lastOf_succ hx'
            have hlast := Lib.hid hlo
            clear hx hx' hlo
            have hg : decide ((0 : Int) < (k : Int)) = true := by simp; omega
            by_cases hle : s'.id < s.id
            · go_wp2
              (refine wp_region_ext (wr.heap.size) (by kernel_rfl) (by kernel_rfl) ?_
               repeat (go_big_quiet_step ((go_at_call 81; refine Calls.ext (Nat.le_refl _) (ref21_MayOne s _))))
               refine wpQuiet_nil ?_
               intro w1 hw'
               have hbw1 := Ext.of hw'
               clear hw'
               obtain ⟨hcw1, hfw1⟩ := bcell hbw1; (try simp only [World.size_drew, World.cell?_drew, World.frozen?_drew, World.heap_drewN, World.cell?_drewN, World.frozen?_drewN] at hcw1 hfw1); have hzw1 := hbw1.size; (try simp at hzw1); (try have hlw1 := (by omega : w.heap.size < w1.heap.size)); (try have hmw1 := (by omega : w.heap.size + 1 < w1.heap.size)); (try have hnw1 := (by omega : w.heap.size + 1 + 1 < w1.heap.size)))
              go_wp2
              go_roundw
              case rel => exact ⟨k + 1, by omega, by go_num, (hr.out.trans (rising_yes hd.out hm (by rw [hlast.out]; exact hle))).trans (by rw [hsucc.out]), (by repeat (first | exact Below.refl _ _ | assumption | refine Below.drew ?_ | refine below_drewN ?_ _ | refine Below.alloc ?_ (by first | omega | (simp; try omega)) _ | refine Below.setCell ?_ (by first | omega | (simp; try omega)) _ | (refine Below.trans ?_ (Below.mono (by assumption) (by first | omega | (simp; try omega))))))⟩
              case measure => simp [intOf]; omega
            · go_wp2
              (refine wp_region_ext (wr.heap.size) (by kernel_rfl) (by kernel_rfl) ?_
               repeat (go_big_quiet_step ((go_at_call 81; refine Calls.ext (Nat.le_refl _) (ref21_MayOne s _))))
               refine wpQuiet_nil ?_
               intro w1 hw'
               have hbw1 := Ext.of hw'
               clear hw'
               obtain ⟨hcw1, hfw1⟩ := bcell hbw1; (try simp only [World.size_drew, World.cell?_drew, World.frozen?_drew, World.heap_drewN, World.cell?_drewN, World.frozen?_drewN] at hcw1 hfw1); have hzw1 := hbw1.size; (try simp at hzw1); (try have hlw1 := (by omega : w.heap.size < w1.heap.size)); (try have hmw1 := (by omega : w.heap.size + 1 < w1.heap.size)); (try have hnw1 := (by omega : w.heap.size + 1 + 1 < w1.heap.size)))
              go_wp2
              go_ret
              exact ⟨ret_bool (mayL_no (hr.out.trans (rising_no hd.out (.inr (by rw [hlast.out]; omega))))), (by repeat (first | exact Below.refl _ _ | assumption | refine Below.drew ?_ | refine below_drewN ?_ _ | refine Below.alloc ?_ (by first | omega | (simp; try omega)) _ | refine Below.setCell ?_ (by first | omega | (simp; try omega)) _ | (refine Below.trans ?_ (Below.mono (by assumption) (by first | omega | (simp; try omega))))))⟩
          · clear hx
            have hg : decide ((0 : Int) < (k : Int)) = false := by simp; omega
            have hlast : Hid (lastOf l k = 0) := by obtain rfl : k = 0 := by omega
                                                    rfl
            have hpos := mayOne_pos hm
            go_wp2
            (refine wp_region_ext (wr.heap.size) (by kernel_rfl) (by kernel_rfl) ?_
             repeat (go_big_quiet_step ((go_at_call 81; refine Calls.ext (Nat.le_refl _) (ref21_MayOne s _))))
             refine wpQuiet_nil ?_
             intro w1 hw'
             have hbw1 := Ext.of hw'
             clear hw'
             obtain ⟨hcw1, hfw1⟩ := bcell hbw1; (try simp only [World.size_drew, World.cell?_drew, World.frozen?_drew, World.heap_drewN, World.cell?_drewN, World.frozen?_drewN] at hcw1 hfw1); have hzw1 := hbw1.size; (try simp at hzw1); (try have hlw1 := (by omega : w.heap.size < w1.heap.size)); (try have hmw1 := (by omega : w.heap.size + 1 < w1.heap.size)); (try have hnw1 := (by omega : w.heap.size + 1 + 1 < w1.heap.size)))
            go_wp2
            go_roundw
            case rel => exact ⟨k + 1, by omega, by go_num, (hr.out.trans (rising_yes hd.out hm (by rw [hlast.out]; exact hpos))).trans (by rw [hsucc.out]), (by repeat (first | exact Below.refl _ _ | assumption | refine Below.drew ?_ | refine below_drewN ?_ _ | refine Below.alloc ?_ (by first | omega | (simp; try omega)) _ | refine Below.setCell ?_ (by first | omega | (simp; try omega)) _ | (refine Below.trans ?_ (Below.mono (by assumption) (by first | omega | (simp; try omega))))))⟩
            case measure => simp [intOf]; omega
      · go_wp2
        go_ret
        exact ⟨ret_bool (by have := hl.out; rw [mayL, hr.out, List.drop_eq_nil_of_le (by omega), h.1]; simp [rising]; omega), (by repeat (first | exact Below.refl _ _ | assumption | refine Below.drew ?_ | refine below_drewN ?_ _ | refine Below.alloc ?_ (by first | omega | (simp; try omega)) _ | refine Below.setCell ?_ (by first | omega | (simp; try omega)) _ | (refine Below.trans ?_ (Below.mono (by assumption) (by first | omega | (simp; try omega))))))⟩
  · go_enter Try.func60, Try.ntmps60
    go_wp2
    go_ret
    exact ⟨ret_bool (by have := hl.out; simp [mayL]; omega), (by repeat (first | exact Below.refl _ _ | assumption | refine Below.drew ?_ | refine below_drewN ?_ _ | refine Below.alloc ?_ (by first | omega | (simp; try omega)) _ | refine Below.setCell ?_ (by first | omega | (simp; try omega)) _ | (refine Below.trans ?_ (Below.mono (by assumption) (by first | omega | (simp; try omega))))))⟩

end Go.Proofs.Ythbmbbbojpdlaaa
