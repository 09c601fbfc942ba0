/-
  For every list of snapshots and every ID SnapRoots returns true: roots rise, each once: all that a snapshot has, and no others; with a snapshot less none that another one has is gone. No condition.
-/
import Derived.Test.YtbhbkllclookhaaWorks
import Derived.Test.YtbhbkllclookhaaSnapG
import Derived.Test.YtbhbkllclookhaaPutS
import Derived.Test.YtbhbkllclookhaaLaw
namespace Go.Proofs.Ytbhbkllclookhaa
open Go.ChangeShapes Go.WideShapes Go.ChangeAt Go.RowKit
attribute [local go_sem ↓] Go.wp_at_zero Go.wp_at_succ

theorem rise_nodup {l : List ByteArray} (h : RiseS l) : l.Nodup := h.imp fun h => sLt_ne h
theorem nodup_le : ∀ {l m : List ByteArray}, l.Nodup → (∀ x ∈ l, x ∈ m) → l.length ≤ m.length
  | [], _, _, _ => by simp
  | x :: l, m, hn, hs => by
    obtain ⟨h1, h2⟩ := List.nodup_cons.1 hn
    have hx : x ∈ m := hs x (by simp)
    have := nodup_le (l := l) (m := m.erase x) h2 (fun y hy => by
      have hne : y ≠ x := fun e => h1 (e ▸ hy)
      exact (List.mem_erase_of_ne hne).2 (hs y (by simp [hy])))
    rw [List.length_erase_of_mem hx] at this
    have hpos : 0 < m.length := List.length_pos_of_mem hx
    simp
    omega
def rootsOf (l : List Snap) : List ByteArray := setS (l.map Snap.root)
theorem rootsOf_mem (l : List Snap) (z : ByteArray) : z ∈ rootsOf l ↔ ∃ s ∈ l, s.root = z := by
  rw [rootsOf, setS_mem, List.mem_map]
theorem rootsOf_step {l : List Snap} {i : Nat} {a b : ByteArray} (ha : (rootsOf l)[i]? = some a) (hb : (rootsOf l)[i + 1]? = some b) : sLt a b = true := by
  obtain ⟨h1, rfl⟩ := List.getElem?_eq_some_iff.1 ha
  obtain ⟨h2, rfl⟩ := List.getElem?_eq_some_iff.1 hb
  exact (List.pairwise_iff_getElem.1 (setS_rise _)) i (i + 1) h1 h2 (by omega)
theorem roots_less {l : List Snap} {t : Snap} (ht : t ∈ l) (hone : ∀ s ∈ l, s.id = t.id → s = t) : (∀ z ∈ rootsOf l, z ≠ t.root → z ∈ rootsOf (without l t.id)) ∧ (rootsOf l).length ≤ (rootsOf (without l t.id)).length + 1 ∧ (rootsOf (without l t.id)).length ≤ (rootsOf l).length := by
  have h1 : ∀ z ∈ rootsOf l, z ≠ t.root → z ∈ rootsOf (without l t.id) := by
    intro z hz hne
    rw [rootsOf_mem] at hz ⊢
    obtain ⟨s, hs, rfl⟩ := hz
    refine ⟨s, ?_, rfl⟩
    simp [without]
    refine ⟨hs, fun e => hne ?_⟩
    rw [hone s hs e]
  refine ⟨h1, ?_, ?_⟩
  · have := nodup_le (m := t.root :: rootsOf (without l t.id)) (rise_nodup (setS_rise (l.map Snap.root))) (fun z hz => by
      by_cases e : z = t.root
      · simp [e]
      · simp; exact .inr (h1 z hz e))
    rw [List.length_cons] at this
    exact this
  · refine nodup_le (rise_nodup (setS_rise _)) (fun z hz => ?_)
    have hz' : z ∈ rootsOf (without l t.id) := hz
    rw [rootsOf_mem] at hz'
    obtain ⟨s, hs, rfl⟩ := hz'
    simp [without] at hs
    exact (rootsOf_mem l _).2 ⟨s, hs.1, rfl⟩
theorem one_id {l : List Snap} {m : Nat} {t : Snap} (hm : mayL l = true) (ht : l[m]? = some t) : ∀ s ∈ l, s.id = t.id → s = t := by
  intro s hs e
  obtain ⟨k, hk⟩ := List.getElem?_of_mem hs
  rcases Nat.lt_or_ge k m with h | h
  · have := rising_at (mayL_rising hm) hk ht h
    omega
  · rcases Nat.lt_or_ge m k with h' | h'
    · have := rising_at (mayL_rising hm) ht hk h'
      omega
    · have : k = m := by omega
      subst this
      rw [ht] at hk
      injection hk with hk
      exact hk.symm

set_option maxHeartbeats 8000000 in
set_option maxRecDepth 100000 in
theorem snapRoots_walk (A : Option Addr) (n c : Nat) (l : List Snap) (id : Int) (w : World) (h : SnapsAt w w.heap.size A n l) :
    Calls Try.prog 5 #[.slice A n c, .int .i64 id] w fun e w' => e = .returned (.bool true) ∧ Below w.heap.size w w' := by
  have hn := h.2.1
  have hl := Lib.hid h.1
  by_cases h1 : 100 < n
  · go_enter Try.func5, Try.ntmps5
    go_wp2_with (go_at_call 15; refine (works_any _).mono ?_; rintro e w1 ⟨rfl, hbw1⟩; obtain ⟨hcw1, hfw1⟩ := bcell hbw1; (try simp only [World.size_drew, World.cell?_drew, World.frozen?_drew, World.heap_drewN, World.cell?_drewN, World.frozen?_drewN] at hcw1 hfw1); have hzw1 := hbw1.size; (try simp at hzw1); (try have hlw1 := (by omega : w.heap.size < w1.heap.size)); (try have hmw1 := (by omega : w.heap.size + 1 < w1.heap.size)); (try have hnw1 := (by omega : w.heap.size + 1 + 1 < w1.heap.size)))
    go_ret
    exact ⟨rfl, (by repeat (first | exact Below.refl _ _ | assumption | refine Below.drew ?_ | refine below_drewN ?_ _ | refine Below.alloc ?_ (by first | omega | (simp; try omega)) _ | refine Below.setCell ?_ (by first | omega | (simp; try omega)) _ | (refine Below.trans ?_ (Below.mono (by assumption) (by first | omega | (simp; try omega))))))⟩
  go_enter Try.func5, Try.ntmps5
  go_wp2_with fail
  refine (works_any _).mono ?_
  rintro e w0 ⟨rfl, hbw0⟩
  have hz0 := hbw0.size
  have hl0 := h.to hbw0
  cases hm : mayL l
  · have hres : Hid (rootsRes l = ([], 4)) := by simp [Hid, rootsRes, hm]
    replace hm := Lib.hid hm
    go_wp2_with fail
    refine (snap_Roots A n c l w0 hl0).mono ?_
    rw [hres.out]
    rintro e w1 ⟨v, rfl, hown, hbw1⟩
    have hz1 := hbw1.size
    obtain ⟨A1, n1, c1, rfl, hr1⟩ := hown.view strCell_len
    obtain rfl : n1 = 0 := by have := hr1.1; simpa using this.symm
    clear hown hr1
    go_wp2_with fail
    refine (snap_May A n c l w1 (hl0.to hbw1)).mono ?_
    rw [hm.out]
    rintro e w2 ⟨rfl, hbw2⟩
    go_wp2_with fail
    go_ret
    exact ⟨rfl, (by repeat (first | exact Below.refl _ _ | assumption | refine Below.drew ?_ | refine below_drewN ?_ _ | refine Below.alloc ?_ (by first | omega | (simp; try omega)) _ | refine Below.setCell ?_ (by first | omega | (simp; try omega)) _ | (refine Below.trans ?_ (Below.mono (by assumption) (by first | omega | (simp; try omega))))))⟩
  have hres : Hid (rootsRes l = (rootsOf l, 0)) := by simp [Hid, rootsRes, hm, rootsOf]
  replace hm := Lib.hid hm
  go_wp2_with fail
  refine (snap_Roots A n c l w0 hl0).mono ?_
  rw [hres.out]
  rintro e w1 ⟨v, rfl, hown, hbw1⟩
  have hz1 := hbw1.size
  obtain ⟨A1, n1, c1, rfl, hr1⟩ := hown.view strCell_len
  have hn1 : n1 ≤ 100 := by
    have h1 := hr1.1
    have h2 := setS_len (l.map Snap.root)
    have h3 := hl.out
    have h4 : (rootsOf l).length ≤ (l.map Snap.root).length := h2
    rw [List.length_map] at h4
    simp at h1
    omega
  clear hown
  have hl1 := hl0.to hbw1
  have hw1 : Below w.heap.size w w1 := (by repeat (first | exact Below.refl _ _ | assumption | refine Below.drew ?_ | refine below_drewN ?_ _ | refine Below.alloc ?_ (by first | omega | (simp; try omega)) _ | refine Below.setCell ?_ (by first | omega | (simp; try omega)) _ | (refine Below.trans ?_ (Below.mono (by assumption) (by first | omega | (simp; try omega))))))
  go_wp2_with fail
  go_loopw [7, 8, 9] (fun i _ _ wr => ∃ k : Nat, k ≤ n1 ∧ i = .int .i64 k ∧ Below w1.heap.size w1 wr) (fun i _ _ _ => n1 - (intOf i).toNat)
  case atStart => exact ⟨0, Nat.zero_le _, rfl, Below.refl _ _⟩
  case round =>
    obtain ⟨k, hk, rfl, hbr⟩ := hrel
    have hzr := hbr.size
    obtain ⟨wo, rfl⟩ : ∃ wo : World, wo = wr := ⟨_, rfl⟩
    by_cases hlt : k < n1
    · obtain ⟨b1, o1, r, rfl, hb1, hx, q0⟩ := (hr1.to hbr).str hlt
      replace hx := Lib.hid hx
      go_wp2_with fail
      go_loopw [8, 9] (fun hd j wr => ∃ m : Nat, m ≤ n ∧ j = .int .i64 m ∧ hd = .bool (decide (r ∈ (l.take m).map Snap.root)) ∧ Below wo.heap.size wo wr) (fun _ j _ => n - (intOf j).toNat)
      case atStart => exact ⟨0, Nat.zero_le _, rfl, by simp, Below.refl _ _⟩
      case round =>
        obtain ⟨m, hm1, rfl, rfl, hbi⟩ := hrel
        have hzi := hbi.size
        have q1 := (hbi.cell (p := ⟨b1, o1 + k, none⟩) hb1).trans q0
        have hbb1 : b1 < wr.heap.size := by omega
        by_cases hlt2 : m < n
        · obtain ⟨b2, o2, s, rfl, hb2, hy, p0, p1, p2⟩ := ((hl1.to hbr).to hbi).snap hlt2
          have htk : Hid (decide (r ∈ (l.take (m + 1)).map Snap.root) = (decide (r ∈ (l.take m).map Snap.root) || decide (s.root = r))) := by
            unfold Hid
            rw [List.take_add_one, hy]
            simp [eq_comm]
          clear hy
          obtain ⟨d, hd⟩ : ∃ d, d = decide (r ∈ (l.take m).map Snap.root) := ⟨_, rfl⟩
          rw [← hd] at htk ⊢
          clear hd
          cases d
          · by_cases hs : s.root = r
            · have hq := str_eq hs
              have hnew : Hid (decide (r ∈ (l.take (m + 1)).map Snap.root) = true) := by unfold Hid; rw [htk.out]; simp [hs]
              replace hs := Lib.hid hs
              go_wp2_with fail
              go_quiet (fail)
              go_wp2_with fail
              go_roundw
              case rel => exact ⟨m + 1, by omega, by go_num, by rw [hnew.out], (by repeat (first | exact Below.refl _ _ | assumption | refine Below.drew ?_ | refine below_drewN ?_ _ | refine Below.alloc ?_ (by first | omega | (simp; try omega)) _ | refine Below.setCell ?_ (by first | omega | (simp; try omega)) _ | (refine Below.trans ?_ (Below.mono (by assumption) (by first | omega | (simp; try omega))))))⟩
              case measure => simp [intOf]; omega
            · have hq := str_ne hs
              have hnew : Hid (decide (r ∈ (l.take (m + 1)).map Snap.root) = false) := by unfold Hid; rw [htk.out]; simp [hs]
              replace hs := Lib.hid hs
              go_wp2_with fail
              go_quiet (fail)
              go_wp2_with fail
              go_roundw
              case rel => exact ⟨m + 1, by omega, by go_num, by rw [hnew.out], (by repeat (first | exact Below.refl _ _ | assumption | refine Below.drew ?_ | refine below_drewN ?_ _ | refine Below.alloc ?_ (by first | omega | (simp; try omega)) _ | refine Below.setCell ?_ (by first | omega | (simp; try omega)) _ | (refine Below.trans ?_ (Below.mono (by assumption) (by first | omega | (simp; try omega))))))⟩
              case measure => simp [intOf]; omega
          · have hnew : Hid (decide (r ∈ (l.take (m + 1)).map Snap.root) = true) := by unfold Hid; rw [htk.out]; simp
            go_wp2_with fail
            go_quiet (fail)
            go_wp2_with fail
            go_roundw
            case rel => exact ⟨m + 1, by omega, by go_num, by rw [hnew.out], (by repeat (first | exact Below.refl _ _ | assumption | refine Below.drew ?_ | refine below_drewN ?_ _ | refine Below.alloc ?_ (by first | omega | (simp; try omega)) _ | refine Below.setCell ?_ (by first | omega | (simp; try omega)) _ | (refine Below.trans ?_ (Below.mono (by assumption) (by first | omega | (simp; try omega))))))⟩
            case measure => simp [intOf]; omega
        · obtain rfl : m = n := by omega
          have hall : decide (r ∈ (l.take m).map Snap.root) = true := by
            rw [List.take_of_length_le (by have := hl.out; omega)]
            have h1 := List.mem_of_getElem? hx.out
            rw [rootsOf, setS_mem] at h1
            simpa using h1
          rw [hall]
          clear hall
          by_cases hk0 : k = 0
          · have hg0 : decide ((0 : Int) < (k : Int)) = false := by simp; omega
            have hg1 : decide (0 < k) = false := by simp; omega
            replace hk0 := Lib.hid hk0
            go_wp2_with fail
            go_quiet (fail)
            go_wp2_with fail
            go_roundw
            case rel => exact ⟨k + 1, by omega, by go_num, (by repeat (first | exact Below.refl _ _ | assumption | refine Below.drew ?_ | refine below_drewN ?_ _ | refine Below.alloc ?_ (by first | omega | (simp; try omega)) _ | refine Below.setCell ?_ (by first | omega | (simp; try omega)) _ | (refine Below.trans ?_ (Below.mono (by assumption) (by first | omega | (simp; try omega))))))⟩
            case measure => simp [intOf]; omega
          · have hg0 : decide ((0 : Int) < (k : Int)) = true := by simp; omega
            have hg1 : decide (0 < k) = true := by simp; omega
            obtain ⟨r', hr'⟩ := getElem_some (l := rootsOf l) (i := k - 1) (by have h1 : (rootsOf l).length = n1 := hr1.1; omega)
            have q2 := ((hr1.to hbr).to hbi).strAt hr'
            have hlt' : sLt r' r = true := rootsOf_step (i := k - 1) hr' (by rw [Nat.sub_add_cancel (by omega)]; exact hx.out)
            have hc1 : Op.bytesLess r.toList r'.toList = false := sLt_asymm hlt'
            have hc2 := str_ne (Ne.symm (sLt_ne hlt'))
            have hi0 : (0 : Int) ≤ (k : Int) - 1 := by omega
            have hi1 : (k : Int) - 1 < (n1 : Int) := by omega
            replace hlt' := Lib.hid hlt'
            replace hr' := Lib.hid hr'
            replace hk0 := Lib.hid hk0
            go_wp2_with fail
            go_quiet (fail)
            go_wp2_with fail
            go_roundw
            case rel => exact ⟨k + 1, by omega, by go_num, (by repeat (first | exact Below.refl _ _ | assumption | refine Below.drew ?_ | refine below_drewN ?_ _ | refine Below.alloc ?_ (by first | omega | (simp; try omega)) _ | refine Below.setCell ?_ (by first | omega | (simp; try omega)) _ | (refine Below.trans ?_ (Below.mono (by assumption) (by first | omega | (simp; try omega))))))⟩
            case measure => simp [intOf]; omega
    · go_wp2_with fail
      go_loopw [10] (fun i wr => ∃ k : Nat, k ≤ n ∧ i = .int .i64 k ∧ Below w1.heap.size w1 wr) (fun i _ => n - (intOf i).toNat)
      case atStart => exact ⟨0, Nat.zero_le _, rfl, hbr⟩
      case round =>
        obtain ⟨m, hm1, rfl, hbr2⟩ := hrel
        have hzr2 := hbr2.size
        by_cases hlt2 : m < n
        · obtain ⟨b2, o2, s, rfl, hb2, hy, p0, p1, p2⟩ := (hl1.to hbr2).snap hlt2
          have hin : Hid (decide (s.root ∈ rootsOf l) = true) := by
            unfold Hid
            rw [decide_eq_true_eq, rootsOf_mem]
            exact ⟨s, List.mem_of_getElem? hy, rfl⟩
          clear hy
          go_wp2_with fail
          refine (among_any A1 n1 c1 (rootsOf l) s.root _ (hr1.to hbr2)).mono ?_
          rw [hin.out]
          rintro e w2 ⟨rfl, hbw2⟩
          go_wp2_with fail
          go_roundw
          case rel => exact ⟨m + 1, by omega, by go_num, (by repeat (first | exact Below.refl _ _ | assumption | refine Below.drew ?_ | refine below_drewN ?_ _ | refine Below.alloc ?_ (by first | omega | (simp; try omega)) _ | refine Below.setCell ?_ (by first | omega | (simp; try omega)) _ | (refine Below.trans ?_ (Below.mono (by assumption) (by first | omega | (simp; try omega))))))⟩
          case measure => simp [intOf]; omega
        · have hw2 : Below w.heap.size w wr := (by repeat (first | exact Below.refl _ _ | assumption | refine Below.drew ?_ | refine below_drewN ?_ _ | refine Below.alloc ?_ (by first | omega | (simp; try omega)) _ | refine Below.setCell ?_ (by first | omega | (simp; try omega)) _ | (refine Below.trans ?_ (Below.mono (by assumption) (by first | omega | (simp; try omega))))))
          have hl2 := h.to (hw1.trans (hbr2.mono (by omega)))
          have hr2 := hr1.to hbr2
          by_cases hin : ∃ t ∈ l, t.id = id
          · obtain ⟨t, ht, rfl⟩ := hin
            obtain ⟨q, hq⟩ := List.getElem?_of_mem ht
            obtain ⟨f1, f2, f3⟩ := roots_less ht (one_id hm.out hq)
            have hdr := Lib.hid (drop_there hm.out hq)
            have hfi := Lib.hid (find_of_at hm.out hq)
            have hres2 : Hid (rootsRes (without l t.id) = (rootsOf (without l t.id), 0)) := by simp [Hid, rootsRes, without_may _ hm.out, rootsOf]
            replace f1 := Lib.hid f1
            clear hq ht
            go_wp2_with fail
            refine (snap_Drop A n c l _ hl2 t.id).mono ?_
            rw [hdr.out]
            rintro e w3 ⟨A3, n3, c3, rfl, hr3, _, hbw3⟩
            have hz3 := hbw3.size
            go_wp2_with fail
            refine (snap_Find' A n c l w3 (hl2.to hbw3) t.id).mono ?_
            rw [hfi.out]
            simp only [Snap.agg]
            rintro e w4 ⟨rfl, hbw4⟩
            have hz4 := hbw4.size
            go_wp2_with fail
            refine (snap_Roots A3 n3 c3 (without l t.id) _ ((hr3.to hbw4).to (by repeat (first | exact Below.refl _ _ | assumption | refine Below.drew ?_ | refine below_drewN ?_ _ | refine Below.alloc ?_ (by first | omega | (simp; try omega)) _ | refine Below.setCell ?_ (by first | omega | (simp; try omega)) _ | (refine Below.trans ?_ (Below.mono (by assumption) (by first | omega | (simp; try omega)))))))).mono ?_
            rw [hres2.out]
            rintro e w5 ⟨v5, rfl, hown5, hbw5⟩
            have hz5 := hbw5.size
            simp at hz5
            obtain ⟨hcw5, _⟩ := bcell hbw5
            have k2 : w5.cell? ⟨w4.heap.size, 2, none⟩ = some (.string t.root) := by go_simp
            clear hcw5
            obtain ⟨A5, n5, c5, rfl, hr5⟩ := hown5.view strCell_len
            have e5 : (rootsOf (without l t.id)).length = n5 := hr5.1
            have e1 : (rootsOf l).length = n1 := hr1.1
            have hg1 : decide ((n5 : Int) < (n1 : Int) - 1) = false := by simp; omega
            have hg2 : decide (n1 < n5) = false := by simp; omega
            have hb45 : Below w4.heap.size w4 w5 := (by repeat (first | exact Below.refl _ _ | assumption | refine Below.drew ?_ | refine below_drewN ?_ _ | refine Below.alloc ?_ (by first | omega | (simp; try omega)) _ | refine Below.setCell ?_ (by first | omega | (simp; try omega)) _ | (refine Below.trans ?_ (Below.mono (by assumption) (by first | omega | (simp; try omega))))))
            have hlt4 : w4.heap.size < w5.heap.size := by omega
            have hbb5 : Below w1.heap.size w1 w5 := ((hbr2.trans (hbw3.mono (by omega))).trans (hbw4.mono (by omega))).trans (hb45.mono (by omega))
            have hw5 : Below w.heap.size w w5 := hw1.trans (hbb5.mono (by omega))
            have hr15 := hr1.to hbb5
            replace e5 := Lib.hid e5
            replace e1 := Lib.hid e1
            clear hown5 f2 f3
            go_wp2_with fail
            go_loopw [16] (fun i wr => ∃ k : Nat, k ≤ n1 ∧ i = .int .i64 k ∧ Below w5.heap.size w5 wr) (fun i _ => n1 - (intOf i).toNat)
            case atStart => exact ⟨0, Nat.zero_le _, rfl, Below.refl _ _⟩
            case round =>
              obtain ⟨j, hj, rfl, hbr3⟩ := hrel
              have hzr3 := hbr3.size
              by_cases hlt3 : j < n1
              · obtain ⟨b1, o1, r, rfl, hb1, hx, q0⟩ := (hr15.to hbr3).str hlt3
                have k2' := (hbr3.cell (p := ⟨w4.heap.size, 2, none⟩) hlt4).trans k2
                have hlt5 : w4.heap.size < wr.heap.size := by omega
                by_cases hrt : r = t.root
                · have hq := str_eq hrt
                  replace hrt := Lib.hid hrt
                  clear hx
                  go_wp2_with fail
                  go_quiet (fail)
                  go_wp2_with fail
                  go_roundw
                  case rel => exact ⟨j + 1, by omega, by go_num, (by repeat (first | exact Below.refl _ _ | assumption | refine Below.drew ?_ | refine below_drewN ?_ _ | refine Below.alloc ?_ (by first | omega | (simp; try omega)) _ | refine Below.setCell ?_ (by first | omega | (simp; try omega)) _ | (refine Below.trans ?_ (Below.mono (by assumption) (by first | omega | (simp; try omega))))))⟩
                  case measure => simp [intOf]; omega
                · have hq := str_ne hrt
                  have hin : Hid (decide (r ∈ rootsOf (without l t.id)) = true) := by
                    unfold Hid
                    rw [decide_eq_true_eq]
                    exact f1.out r (List.mem_of_getElem? hx) hrt
                  replace hrt := Lib.hid hrt
                  clear hx
                  have hr55 := Lib.hid (hr5.to hbr3)
                  have ham : Hid (∀ W : World, Below wr.heap.size wr W → Calls Try.prog 23 #[.slice A5 n5 c5, .string r] W fun e w' => e = .returned (.bool true) ∧ Below W.heap.size W w') := fun W hW => by
                    rw [← hin.out]
                    exact among_any A5 n5 c5 _ r W (hr55.out.to hW)
                  go_wp2_with fail
                  (refine wp_region_ext (wr.heap.size) (by kernel_rfl) (by kernel_rfl) ?_
                   repeat (go_big_quiet_step ((go_at_call 23; refine Calls.ext (Nat.le_refl _) (ham.out _ (Ext.below _)))))
                   refine wpQuiet_nil ?_
                   intro w9 hw'
                   have hbw9 := Ext.of hw'
                   clear hw'
                   obtain ⟨hcw9, hfw9⟩ := bcell hbw9; (try simp only [World.size_drew, World.cell?_drew, World.frozen?_drew, World.heap_drewN, World.cell?_drewN, World.frozen?_drewN] at hcw9 hfw9); have hzw9 := hbw9.size; (try simp at hzw9); (try have hlw9 := (by omega : w.heap.size < w9.heap.size)); (try have hmw9 := (by omega : w.heap.size + 1 < w9.heap.size)); (try have hnw9 := (by omega : w.heap.size + 1 + 1 < w9.heap.size)))
                  go_wp2_with fail
                  go_roundw
                  case rel => exact ⟨j + 1, by omega, by go_num, (by repeat (first | exact Below.refl _ _ | assumption | refine Below.drew ?_ | refine below_drewN ?_ _ | refine Below.alloc ?_ (by first | omega | (simp; try omega)) _ | refine Below.setCell ?_ (by first | omega | (simp; try omega)) _ | (refine Below.trans ?_ (Below.mono (by assumption) (by first | omega | (simp; try omega))))))⟩
                  case measure => simp [intOf]; omega
              · go_wp2_with fail
                go_ret
                exact ⟨rfl, hw5.trans (hbr3.mono (by omega))⟩
          · have hno : ∀ s ∈ l, s.id ≠ id := fun s hs e => hin ⟨s, hs, e⟩
            have hdr := Lib.hid (drop_none' hm.out hno)
            clear hno
            replace hin := Lib.hid hin
            go_wp2_with fail
            refine (snap_Drop A n c l _ hl2 id).mono ?_
            rw [hdr.out]
            rintro e w3 ⟨A3, n3, c3, rfl, _, _, hbw3⟩
            go_wp2_with fail
            go_ret
            exact ⟨rfl, hw2.trans (hbw3.mono (by omega))⟩

set_option maxRecDepth 100000 in
set_option maxRecDepth 100000 in
theorem snapRoots_lifted (os : Os) (started : os.Started) (H : Type) (enc : TypeId × Value → H) :
    ReturnsInHanded {} Try.checked os 5 .any (Rows.snapRootsSpec.pre6 enc Try.prog Try.f5 Rows.snapRootsRow.domain false) (Rows.snapRootsSpec.post enc Try.prog Try.f5 false true false false) := by
  refine law_lifted started (by kernel_rfl) Try.func5 rfl rfl ?_ (by kernel_rfl)
    (ChangeSpec.witness6 (enc := enc) (C := Try.checked) false ⟨#[], #[.slice none 0 0, .int .i64 0], []⟩ 8 (by kernel_rfl) (by kernel_rfl) (by kernel_rfl) (by kernel_rfl)) ?_
  · intro ds hd
    match ds, hd with
    | [d1, d2], _ => exact ⟨rfl, rfl, rfl⟩
  · intro W base args ds ps hval hA hlt
    rw [Try.params5] at hA hval
    obtain ⟨v0, v1, d0, d1, p0, p1, rfl, rfl, rfl, h0, h1⟩ := trodAll_two hA
    obtain ⟨A, n, c, l, rfl, hl, _⟩ := open_snaps (hval 0 22 v0 rfl rfl) h0
    obtain ⟨id, rfl, _⟩ := open_int Try.underlying3 (hval 1 3 v1 rfl rfl) h1
    exact snapRoots_walk A n c l id W hl

theorem snapRoots_holds : Rows.SnapRootsSaid :=
  OpenClaim.holds_of_wide 5 Try.f5 rfl rfl rfl rfl rfl rfl rfl ⟨rfl, rfl, rfl, rfl, rfl⟩ rfl rfl rfl rfl rfl (by kernel_rfl) Try.func5 (by kernel_rfl)
    (of_decide_eq_true (by kernel_rfl)) (by unfold Func.isWrapper; rw [if_neg (of_decide_eq_false (by kernel_rfl))]; exact ⟨rfl, rfl⟩)
    (fun os started H enc _ => snapRoots_lifted os started H enc)
#print axioms snapRoots_holds
end Go.Proofs.Ytbhbkllclookhaa
