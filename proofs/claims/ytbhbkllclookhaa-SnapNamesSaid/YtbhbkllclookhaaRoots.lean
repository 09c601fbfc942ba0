/-
  The contracts of snap.Roots and of the reference's Put and Roots.
-/
import Derived.Test.YtbhbkllclookhaaCnt
import Derived.Test.YtbhbkllclookhaaSnapP
import Derived.Test.YtbhbkllclookhaaSnapOwn
namespace Go.Proofs.Ytbhbkllclookhaa
open Go.RowKit Go.Maps

theorem rising_one : ∀ {l : List Snap} {y : Int}, rising y l = true → ∀ s ∈ l, mayOne s = true
  | [], _, _ => by simp
  | x :: l, y, h => by
    simp [rising] at h
    intro s hs
    simp at hs
    rcases hs with rfl | hs
    · exact h.1.1
    · exact rising_one h.2 s hs
theorem mayL_root {l : List Snap} (h : mayL l = true) {s : Snap} (hs : s ∈ l) : s.root.size = 32 := by
  have := rising_one (by simp [mayL] at h; exact h.1) s hs
  simp [mayOne] at this
  exact this.2

/-- What Roots answers. -/
def rootsRes (l : List Snap) : List ByteArray × Int := if mayL l then (setS (l.map Snap.root), 0) else ([], 4)

set_option maxHeartbeats 1000000 in
theorem snap_Roots (A : Option Addr) (n c : Nat) (l : List Snap) (w : World) (h : SnapsAt w w.heap.size A n l) :
    Calls Try.prog 22 #[.slice A n c] w fun e w' => ∃ v, e = .returned (.tuple #[v, .int .i64 (rootsRes l).2]) ∧ Owns 1 strCell 9 w' w.heap.size v (rootsRes l).1 ∧ Below w.heap.size w w' := by
  have hn := h.2.1
  have hl := Lib.hid h.1
  cases hm : mayL l
  · have hres : Hid (rootsRes l = ([], 4)) := by simp [Hid, rootsRes, hm]
    replace hm := Lib.hid hm
    go_enter Try.func22, Try.ntmps22
    go_wp2_with fail
    refine (snap_May A n c l _ (h.to (by repeat (first | exact Below.refl _ _ | assumption | refine Below.drew ?_ | refine below_drewN ?_ _ | refine Below.alloc ?_ (by first | omega | (simp; try omega)) _ | refine Below.setCell ?_ (by first | omega | (simp; try omega)) _ | (refine Below.trans ?_ (Below.mono (by assumption) (by first | omega | (simp; try omega)))))))).mono ?_
    rw [hm.out]
    rintro e w1 ⟨rfl, hbw1⟩
    go_wp2_with fail
    go_ret2
    exact ⟨.slice none 0 0, by rw [hres.out]; rfl, by rw [hres.out]; exact Owns.nil_, (by repeat (first | exact Below.refl _ _ | assumption | refine Below.drew ?_ | refine below_drewN ?_ _ | refine Below.alloc ?_ (by first | omega | (simp; try omega)) _ | refine Below.setCell ?_ (by first | omega | (simp; try omega)) _ | (refine Below.trans ?_ (Below.mono (by assumption) (by first | omega | (simp; try omega))))))⟩
  · have hres : Hid (rootsRes l = (setS (l.map Snap.root), 0)) := by simp [Hid, rootsRes, hm]
    have hn32 : n ≤ 32 := by have := hl.out; simp [mayL] at hm; omega
    replace hm := Lib.hid hm
    have hmm := @run_makeMap Try.prog
    go_enter Try.func22, Try.ntmps22
    go_wp2_with fail
    refine (snap_May A n c l _ (h.to (by repeat (first | exact Below.refl _ _ | assumption | refine Below.drew ?_ | refine below_drewN ?_ _ | refine Below.alloc ?_ (by first | omega | (simp; try omega)) _ | refine Below.setCell ?_ (by first | omega | (simp; try omega)) _ | (refine Below.trans ?_ (Below.mono (by assumption) (by first | omega | (simp; try omega)))))))).mono ?_
    rw [hm.out]
    rintro e w1 ⟨rfl, hbw1⟩
    have hz1 := hbw1.size
    have h1 := h.to hbw1
    go_wp2_with fail
    go_loopw [13] (fun i wr => ∃ k : Nat, k ≤ n ∧ i = .int .i64 k ∧ CntAt wr w1.heap.size ((l.take k).map Snap.root) ∧ Below w1.heap.size w1 wr) (fun i _ => n - (intOf i).toNat)
    case atStart => exact ⟨0, Nat.zero_le _, rfl, by simpa using CntAt.made w1, (by repeat (first | exact Below.refl _ _ | assumption | refine Below.drew ?_ | refine below_drewN ?_ _ | refine Below.alloc ?_ (by first | omega | (simp; try omega)) _ | refine Below.setCell ?_ (by first | omega | (simp; try omega)) _ | (refine Below.trans ?_ (Below.mono (by assumption) (by first | omega | (simp; try omega))))))⟩
    case round =>
      obtain ⟨k, hk, rfl, hcnt, hbr⟩ := hrel
      have hzr := hbr.size
      by_cases hlt : k < n
      · obtain ⟨b0, off, s, rfl, hb0, hx, q0, q1, q2⟩ := (h1.to hbr).snap hlt
        have hsz : s.root.size ≤ maxLen := by rw [mayL_root hm.out (List.mem_of_getElem? hx)]; decide
        have htk : Hid ((l.take (k + 1)).map Snap.root = (l.take k).map Snap.root ++ [s.root]) := by
          unfold Hid
          rw [List.take_add_one, hx]
          simp
        have hlen : ((l.take k).map Snap.root).length < 1000000000 := by simp; omega
        clear hx
        replace hlen := Lib.hid hlen
        replace hsz := Lib.hid hsz
        go_wp2_with (first
          | (at_lookup; go_must (refine wpList_cnt_lookup _ rfl _ _ rfl w1.heap.size _ rfl (CntAt.alloc hcnt _) s.root rfl hsz.out ?_); intro c hc9 hc)
          | (at_mapUpdate; go_must (refine wpList_cnt_update _ rfl _ _ _ rfl w1.heap.size _ rfl (CntAt.alloc hcnt _) hlen.out s.root rfl hsz.out c hc rfl ?_); intro w3 hcnt3 hg3))
        go_roundw
        case rel => exact ⟨k + 1, by omega, by go_num, by rw [htk.out]; exact hcnt3, Below.grown (by repeat (first | exact Below.refl _ _ | assumption | refine Below.drew ?_ | refine below_drewN ?_ _ | refine Below.alloc ?_ (by first | omega | (simp; try omega)) _ | refine Below.setCell ?_ (by first | omega | (simp; try omega)) _ | (refine Below.trans ?_ (Below.mono (by assumption) (by first | omega | (simp; try omega)))))) hg3 (by first | omega | (simp; try omega)) (fun _ hi => by cases hi; exact Nat.le_refl _)⟩
        case measure => simp [intOf]; omega
      · obtain rfl : k = n := by omega
        have htk : Hid ((l.take k).map Snap.root = l.map Snap.root) := by unfold Hid; rw [List.take_of_length_le (by have := hl.out; omega)]
        rw [htk.out] at hcnt
        go_wp2_with fail
        refine (maps_Keys _ _).mono ?_
        rintro e w2 ⟨rfl, rfl⟩
        go_wp2_with fail
        refine (sorted_keys w1.heap.size _ wr hcnt).mono ?_
        rintro e w3 ⟨v, rfl, hown, hb3⟩
        have hz3 := hb3.size
        have hbw : Below w.heap.size w wr := (by repeat (first | exact Below.refl _ _ | assumption | refine Below.drew ?_ | refine below_drewN ?_ _ | refine Below.alloc ?_ (by first | omega | (simp; try omega)) _ | refine Below.setCell ?_ (by first | omega | (simp; try omega)) _ | (refine Below.trans ?_ (Below.mono (by assumption) (by first | omega | (simp; try omega))))))
        have hbw3 : Below w.heap.size w w3 := (hbw.alloc (by omega) _).trans (hb3.mono (by omega))
        go_wp2_with fail
        go_ret2
        exact ⟨v, by rw [hres.out]; rfl, by rw [hres.out]; exact hown.base (by omega), hbw3⟩
end Go.Proofs.Ytbhbkllclookhaa
