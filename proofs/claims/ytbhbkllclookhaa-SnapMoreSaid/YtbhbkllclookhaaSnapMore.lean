/-
  For every list of snapshots and every snapshot SnapMore returns true: a list with a snapshot behind it may be one just if it may be, that one may be, its ID is above all others, and there are fewer than MaxSnaps; just then Add is OK. No condition.
-/
import Derived.Test.YtbhbkllclookhaaWorks
import Derived.Test.YtbhbkllclookhaaSnapF
import Derived.Test.YtbhbkllclookhaaLaw
namespace Go.Proofs.Ytbhbkllclookhaa
open Go.ChangeShapes Go.WideShapes Go.ChangeAt Go.RowKit
attribute [local go_sem ↓] Go.wp_at_zero Go.wp_at_succ

set_option maxHeartbeats 4000000 in
set_option maxRecDepth 100000 in
theorem snapMore_walk (A : Option Addr) (n c : Nat) (l : List Snap) (s : Snap) (w : World) (h : SnapsAt w w.heap.size A n l) :
    Calls Try.prog 3 #[.slice A n c, s.agg] w fun e w' => e = .returned (.bool true) ∧ Below w.heap.size w w' := by
  unfold Snap.agg
  have hn := h.2.1
  have hl := Lib.hid h.1
  by_cases h1 : 100 < n
  · go_enter Try.func3, Try.ntmps3
    go_wp2_with (go_at_call 15; refine (works_any _).mono ?_; rintro e w1 ⟨rfl, hbw1⟩; obtain ⟨hcw1, hfw1⟩ := bcell hbw1; (try simp only [World.size_drew, World.cell?_drew, World.frozen?_drew, World.heap_drewN, World.cell?_drewN, World.frozen?_drewN] at hcw1 hfw1); have hzw1 := hbw1.size; (try simp at hzw1); (try have hlw1 := (by omega : w.heap.size < w1.heap.size)); (try have hmw1 := (by omega : w.heap.size + 1 < w1.heap.size)); (try have hnw1 := (by omega : w.heap.size + 1 + 1 < w1.heap.size)))
    go_ret
    exact ⟨rfl, (by repeat (first | exact Below.refl _ _ | assumption | refine Below.drew ?_ | refine below_drewN ?_ _ | refine Below.alloc ?_ (by first | omega | (simp; try omega)) _ | refine Below.setCell ?_ (by first | omega | (simp; try omega)) _ | (refine Below.trans ?_ (Below.mono (by assumption) (by first | omega | (simp; try omega))))))⟩
  · go_enter Try.func3, Try.ntmps3
    go_upto_region 3 with (go_at_call 15; refine (works_any _).mono ?_; rintro e w1 ⟨rfl, hbw1⟩; obtain ⟨hcw1, hfw1⟩ := bcell hbw1; (try simp only [World.size_drew, World.cell?_drew, World.frozen?_drew, World.heap_drewN, World.cell?_drewN, World.frozen?_drewN] at hcw1 hfw1); have hzw1 := hbw1.size; (try simp at hzw1); (try have hlw1 := (by omega : w.heap.size < w1.heap.size)); (try have hmw1 := (by omega : w.heap.size + 1 < w1.heap.size)); (try have hnw1 := (by omega : w.heap.size + 1 + 1 < w1.heap.size)))
    have hb1 : Below w.heap.size w w1 := (by repeat (first | exact Below.refl _ _ | assumption | refine Below.drew ?_ | refine below_drewN ?_ _ | refine Below.alloc ?_ (by first | omega | (simp; try omega)) _ | refine Below.setCell ?_ (by first | omega | (simp; try omega)) _ | (refine Below.trans ?_ (Below.mono (by assumption) (by first | omega | (simp; try omega))))))
    have hl1 := h.to hb1
    have k0 : w1.cell? ⟨w.heap.size, 0, none⟩ = some (.int .i64 s.id) := by go_simp
    have k1 : w1.cell? ⟨w.heap.size, 1, none⟩ = some (.int .i64 s.time) := by go_simp
    have k2 : w1.cell? ⟨w.heap.size, 2, none⟩ = some (.string s.root) := by go_simp
    have hlt1 : w.heap.size < w1.heap.size := by omega
    have hbox : Hid (∀ W : World, Below w1.heap.size w1 W → W.cell? ⟨w.heap.size, 0, none⟩ = some (.int .i64 s.id) ∧ W.cell? ⟨w.heap.size, 1, none⟩ = some (.int .i64 s.time) ∧ W.cell? ⟨w.heap.size, 2, none⟩ = some (.string s.root)) :=
      fun W hb => ⟨(hb.cell (p := ⟨_, _, none⟩) hlt1).trans k0, (hb.cell (p := ⟨_, _, none⟩) hlt1).trans k1, (hb.cell (p := ⟨_, _, none⟩) hlt1).trans k2⟩
    clear hcw1 hfw1
    go_cut [5] (fun v5 wc => v5 = .bool (above l s) ∧ Below w1.heap.size w1 wc)
    case first =>
      by_cases h0 : n = 0
      · have hab : Hid (above l s = true) := by unfold Hid; rw [List.eq_nil_of_length_eq_zero (hl.out.trans h0)]; rfl
        have hg0 : ((n : Int) == 0) = true := by simp; omega
        go_quiet (fail)
        go_wp2_with fail
        go_meet
        exact ⟨by rw [hab.out], (by repeat (first | exact Below.refl _ _ | assumption | refine Below.drew ?_ | refine below_drewN ?_ _ | refine Below.alloc ?_ (by first | omega | (simp; try omega)) _ | refine Below.setCell ?_ (by first | omega | (simp; try omega)) _ | (refine Below.trans ?_ (Below.mono (by assumption) (by first | omega | (simp; try omega))))))⟩
      · obtain ⟨t, ht⟩ := getElem_some (l := l) (i := n - 1) (by have := hl.out; omega)
        have hab : Hid (above l s = decide (t.id < s.id)) := by
          have h1 := hl.out
          have := lastOf_succ ht
          rw [Nat.sub_add_cancel (by omega)] at this
          unfold Hid above
          rw [h1, this]
          simp [h0]
        obtain ⟨b0, f0, rfl, hb0⟩ := h.addr (i := n - 1) (by omega)
        obtain ⟨z0, _, _⟩ := hl1.snapEx ht
        have hi0 : (0 : Int) ≤ (n : Int) - 1 := by omega
        have hi1 : (n : Int) - 1 < (n : Int) := by omega
        have hg0 : ((n : Int) == 0) = false := by simp; omega
        replace ht := Lib.hid ht
        go_quiet (fail)
        go_wp2_with fail
        go_meet
        exact ⟨by rw [hab.out], (by repeat (first | exact Below.refl _ _ | assumption | refine Below.drew ?_ | refine below_drewN ?_ _ | refine Below.alloc ?_ (by first | omega | (simp; try omega)) _ | refine Below.setCell ?_ (by first | omega | (simp; try omega)) _ | (refine Below.trans ?_ (Below.mono (by assumption) (by first | omega | (simp; try omega))))))⟩
    case rest =>
      obtain ⟨rfl, hbc⟩ := hcut
      have hzc := hbc.size
      have hone : Hid (∀ W : World, Calls Try.prog 17 #[.agg #[.int .i64 s.id, .int .i64 s.time, .string s.root]] W fun e w' => e = .returned (.bool (mayOne s)) ∧ Below W.heap.size W w') := fun W => snap_MayOne s W
      obtain ⟨c2, hc2⟩ : ∃ x, x = above l s := ⟨_, rfl⟩
      rw [← hc2]
      replace hc2 := Lib.hid hc2
      go_upto_region 4 with fail
      go_cut [6] (fun v6 wd => v6 = .bool (wantMore l s) ∧ Below w1.heap.size w1 wd)
      case first =>
        obtain ⟨c0, hc0⟩ : ∃ x, x = mayL l := ⟨_, rfl⟩
        obtain ⟨c1, hc1⟩ : ∃ x, x = mayOne s := ⟨_, rfl⟩
        have hw : Hid (wantMore l s = (c0 && c1 && c2 && decide (n < 32))) := by unfold Hid wantMore; rw [hc0, hc1, hc2.out, hl.out]
        have hmay : Hid (∀ W : World, Below w1.heap.size w1 W → Calls Try.prog 16 #[.slice A n c] W fun e w' => e = .returned (.bool c0) ∧ Below W.heap.size W w') := fun W hW => by rw [hc0]; exact snap_May A n c l W (hl1.to hW)
        rw [← hc1] at hone
        clear hc0 hc1 hc2
        obtain ⟨c3, hc3⟩ : ∃ x, x = decide (n < 32) := ⟨_, rfl⟩
        have hd32 : decide ((n : Int) < 32) = c3 := by rw [hc3, decide_eq_decide]; omega
        rw [← hc3] at hw
        clear hc3
        cases c3
        all_goals
          cases c0
          · go_wp2_with (go_at_call 16; refine (hmay.out _ (by repeat (first | exact Below.refl _ _ | assumption | refine Below.drew ?_ | refine below_drewN ?_ _ | refine Below.alloc ?_ (by first | omega | (simp; try omega)) _ | refine Below.setCell ?_ (by first | omega | (simp; try omega)) _ | (refine Below.trans ?_ (Below.mono (by assumption) (by first | omega | (simp; try omega))))))).mono ?_; rintro e w2 ⟨rfl, hbw2⟩; obtain ⟨hcw2, hfw2⟩ := bcell hbw2; (try simp only [World.size_drew, World.cell?_drew, World.frozen?_drew, World.heap_drewN, World.cell?_drewN, World.frozen?_drewN] at hcw2 hfw2); have hzw2 := hbw2.size; (try simp at hzw2); (try have hlw2 := (by omega : w.heap.size < w2.heap.size)); (try have hmw2 := (by omega : w.heap.size + 1 < w2.heap.size)); (try have hnw2 := (by omega : w.heap.size + 1 + 1 < w2.heap.size)))
            go_meet
            exact ⟨by rw [hw.out]; rfl, (by repeat (first | exact Below.refl _ _ | assumption | refine Below.drew ?_ | refine below_drewN ?_ _ | refine Below.alloc ?_ (by first | omega | (simp; try omega)) _ | refine Below.setCell ?_ (by first | omega | (simp; try omega)) _ | (refine Below.trans ?_ (Below.mono (by assumption) (by first | omega | (simp; try omega))))))⟩
          · cases c1
            all_goals
              cases c2
              all_goals
                go_wp2_with fail
                refine (hmay.out _ (by repeat (first | exact Below.refl _ _ | assumption | refine Below.drew ?_ | refine below_drewN ?_ _ | refine Below.alloc ?_ (by first | omega | (simp; try omega)) _ | refine Below.setCell ?_ (by first | omega | (simp; try omega)) _ | (refine Below.trans ?_ (Below.mono (by assumption) (by first | omega | (simp; try omega))))))).mono ?_
                rintro e w2 ⟨rfl, hbw2⟩
                have hzw2 := hbw2.size
                obtain ⟨j0, j1, j2⟩ := hbox.out w2 (by repeat (first | exact Below.refl _ _ | assumption | refine Below.drew ?_ | refine below_drewN ?_ _ | refine Below.alloc ?_ (by first | omega | (simp; try omega)) _ | refine Below.setCell ?_ (by first | omega | (simp; try omega)) _ | (refine Below.trans ?_ (Below.mono (by assumption) (by first | omega | (simp; try omega))))))
                go_wp2_with fail
                refine (hone.out _).mono ?_
                rintro e w3 ⟨rfl, hbw3⟩
                have hzw3 := hbw3.size
                clear j0 j1 j2
                go_wp2_with fail
                go_meet
                exact ⟨by rw [hw.out]; rfl, (by repeat (first | exact Below.refl _ _ | assumption | refine Below.drew ?_ | refine below_drewN ?_ _ | refine Below.alloc ?_ (by first | omega | (simp; try omega)) _ | refine Below.setCell ?_ (by first | omega | (simp; try omega)) _ | (refine Below.trans ?_ (Below.mono (by assumption) (by first | omega | (simp; try omega))))))⟩
      case rest =>
        obtain ⟨rfl, hbd⟩ := hcut
        have hzd := hbd.size
        obtain ⟨wt, hwt⟩ : ∃ x, x = wantMore l s := ⟨_, rfl⟩
        rw [← hwt]
        obtain ⟨R, z, hadd, hRz⟩ : ∃ R z, addRes l s = (R, z) ∧ ((wt = true ∧ R = l ++ [s] ∧ z = 0) ∨ (wt = false ∧ z ≠ 0)) := by
          cases wt
          · obtain ⟨z, h1, h2⟩ := add_less hwt.symm
            exact ⟨_, _, h1, .inr ⟨rfl, h2⟩⟩
          · exact ⟨_, _, add_more hwt.symm, .inl ⟨rfl, rfl, rfl⟩⟩
        replace hadd := Lib.hid hadd
        replace hwt := Lib.hid hwt
        replace hRz := Lib.hid hRz
        obtain ⟨j0, j1, j2⟩ := hbox.out wc hbd
        go_wp2_with fail
        refine (snap_Add A n c l s _ (hl1.to hbd)).mono ?_
        rw [hadd.out]
        rintro e w5 ⟨v5, rfl, hown5, hbw5⟩
        have hz5 := hbw5.size
        have hb5 : Below w1.heap.size w1 w5 := (by repeat (first | exact Below.refl _ _ | assumption | refine Below.drew ?_ | refine below_drewN ?_ _ | refine Below.alloc ?_ (by first | omega | (simp; try omega)) _ | refine Below.setCell ?_ (by first | omega | (simp; try omega)) _ | (refine Below.trans ?_ (Below.mono (by assumption) (by first | omega | (simp; try omega))))))
        obtain ⟨A5, c5, rfl⟩ : ∃ A c, v5 = .slice A R.length c := hown5.form
        have hr5 := hown5.row Snap.len
        clear hown5 j0 j1 j2
        obtain ⟨j0, j1, j2⟩ := hbox.out w5 hb5
        have hl5 := h.to (hb1.trans (hb5.mono (by omega)))
        go_upto_region 6 with fail
        go_cut [9] (fun v9 we => ∃ A9 n9 c9, v9 = .slice A9 n9 c9 ∧ SnapsAt we we.heap.size A9 n9 (l ++ [s]) ∧ Below w5.heap.size w5 we)
        case first =>
          have hlt5 : w.heap.size < w5.heap.size := by omega
          have hS : ∀ W : World, w5.heap.size ≤ W.heap.size → Below w5.heap.size w5 W → (fun W : World => w5.heap.size ≤ W.heap.size ∧ Below w5.heap.size w5 W ∧ W.cell? ⟨w.heap.size, 0, none⟩ = some (.int .i64 s.id) ∧ W.cell? ⟨w.heap.size, 1, none⟩ = some (.int .i64 s.time) ∧ W.cell? ⟨w.heap.size, 2, none⟩ = some (.string s.root)) W := fun W hz hb =>
            ⟨hz, hb, (hb.cell (p := ⟨_, _, none⟩) hlt5).trans j0, (hb.cell (p := ⟨_, _, none⟩) hlt5).trans j1, (hb.cell (p := ⟨_, _, none⟩) hlt5).trans j2⟩
          replace hS := Lib.hid hS
          replace hl5 := Lib.hid hl5
          replace hr5 := Lib.hid hr5
          go_region_held3 (fun W : World => w5.heap.size ≤ W.heap.size ∧ Below w5.heap.size w5 W ∧ W.cell? ⟨w.heap.size, 0, none⟩ = some (.int .i64 s.id) ∧ W.cell? ⟨w.heap.size, 1, none⟩ = some (.int .i64 s.time) ∧ W.cell? ⟨w.heap.size, 2, none⟩ = some (.string s.root))
            ((go_split_ands; exact hS.out _ (by first | omega | (simp; try omega)) (by repeat (first | exact Below.refl _ _ | assumption | refine Below.drew ?_ | refine below_drewN ?_ _ | refine Below.alloc ?_ (by first | omega | (simp; try omega)) _ | refine Below.setCell ?_ (by first | omega | (simp; try omega)) _ | (refine Below.trans ?_ (Below.mono (by assumption) (by first | omega | (simp; try omega))))))))
            (first
              | ((go_split_ands; refine step_append_snaps (by rfl) (.tmp 53) (.tmp 54) (by rfl) w5.heap.size (.slice (some ⟨_, 0, none⟩) 0 0) [] (by rfl) A n c l (by rfl) (by first | exact Owns.empty _ (by simp) (by first | omega | (simp; try omega)) | exact (Owns.empty _ (by simp) (by first | omega | (simp; try omega))).alloc _) _ (hl5.out.to (by assumption)) (by simp; omega) (by first | omega | (simp; try omega)) ?_); intro v1 w6 hown6 hg6 hat6; have hzz6 := hg6.size; (try simp at hzz6); have hbb6 : Below w5.heap.size w5 w6 := Below.grown (by repeat (first | exact Below.refl _ _ | assumption | refine Below.drew ?_ | refine below_drewN ?_ _ | refine Below.alloc ?_ (by first | omega | (simp; try omega)) _ | refine Below.setCell ?_ (by first | omega | (simp; try omega)) _ | (refine Below.trans ?_ (Below.mono (by assumption) (by first | omega | (simp; try omega)))))) hg6 (by first | omega | (simp; try omega)) (fun _ hi => by cases hi; first | omega | (simp; try omega)))
              | ((go_split_ands; refine step_append_snap (by rfl) (.tmp 55) (.tmp 57) (by rfl) w5.heap.size v1 l (by rfl) _ _ s (by rfl) (by (repeat (first | with_reducible refine Owns.alloc ?_ _ | with_reducible refine Owns.drew ?_ | with_reducible refine Owns.drewN ?_ _)); exact hown6) (by first | (go_simp; done) | (rw [hg6.cell_far _ (by first | omega | (simp; try omega)) (by simp [Value.ownBlock])]; go_simp)) (by first | (go_simp; done) | (rw [hg6.cell_far _ (by first | omega | (simp; try omega)) (by simp [Value.ownBlock])]; go_simp)) (by first | (go_simp; done) | (rw [hg6.cell_far _ (by first | omega | (simp; try omega)) (by simp [Value.ownBlock])]; go_simp)) (by have := hl.out; omega) (by first | omega | (simp; try omega)) ?_); intro v2 w7 hown7 hg7 hat7; have hzz7 := hg7.size; (try simp at hzz7); have hbb7 : Below w5.heap.size w5 w7 := Below.grown (by repeat (first | exact Below.refl _ _ | assumption | refine Below.drew ?_ | refine below_drewN ?_ _ | refine Below.alloc ?_ (by first | omega | (simp; try omega)) _ | refine Below.setCell ?_ (by first | omega | (simp; try omega)) _ | (refine Below.trans ?_ (Below.mono (by assumption) (by first | omega | (simp; try omega)))))) hg7 (by first | omega | (simp; try omega)) (fun _ hi => (hown6.lt hi).1)))
          all_goals
            go_split_ands
            obtain ⟨A9, c9, rfl⟩ : ∃ A c, v2 = .slice A (l ++ [s]).length c := hown7.form
            go_wp2_with fail
            go_meet
            exact ⟨A9, l.length + 1, c9, rfl, by simpa using hown7.row Snap.len, by assumption⟩
        case rest =>
          obtain ⟨A9, n9, c9, rfl, hr9, hbe⟩ := hcut
          have hze := hbe.size
          have hmay : Hid (mayL (l ++ [s]) = wt) := by unfold Hid; rw [mayL_snoc, hwt.out]
          go_wp2_with fail
          refine (snap_May A9 n9 c9 (l ++ [s]) _ (hr9.to (by repeat (first | exact Below.refl _ _ | assumption | refine Below.drew ?_ | refine below_drewN ?_ _ | refine Below.alloc ?_ (by first | omega | (simp; try omega)) _ | refine Below.setCell ?_ (by first | omega | (simp; try omega)) _ | (refine Below.trans ?_ (Below.mono (by assumption) (by first | omega | (simp; try omega)))))))).mono ?_
          rw [hmay.out]
          rintro e w6 ⟨rfl, hbw6⟩
          have hz6 := hbw6.size
          have hbz : Below w.heap.size w w6 := ((hb1.trans (hb5.mono (by omega))).trans (hbe.mono (by omega))).trans (hbw6.mono (by omega))
          cases wt
          · have hz0 : (z == 0) = false := by rcases hRz.out with ⟨h, _⟩ | ⟨_, h⟩; cases h; simpa using h
            have hz0' : (z != 0) = true := by rcases hRz.out with ⟨h, _⟩ | ⟨_, h⟩; cases h; simpa using h
            go_wp2_with fail
            go_ret
            exact ⟨rfl, hbz⟩
          · obtain ⟨rfl, rfl⟩ : R = l ++ [s] ∧ z = 0 := by rcases hRz.out with ⟨_, h⟩ | ⟨h, _⟩; exact h; cases h
            have hr5' : SnapsAt w5 w5.heap.size A5 (l.length + 1) (l ++ [s]) := by simpa using hr5
            replace hr5 := Lib.hid hr5
            go_wp2_with fail
            with_reducible refine (snap_Same A5 A9 (l.length + 1) n9 c5 c9 (l ++ [s]) (l ++ [s]) _ ((hr5'.to hbe).to (by repeat (first | exact Below.refl _ _ | assumption | refine Below.drew ?_ | refine below_drewN ?_ _ | refine Below.alloc ?_ (by first | omega | (simp; try omega)) _ | refine Below.setCell ?_ (by first | omega | (simp; try omega)) _ | (refine Below.trans ?_ (Below.mono (by assumption) (by first | omega | (simp; try omega))))))) (hr9.to hbw6)).mono ?_
            rw [show sameL (l ++ [s]) (l ++ [s]) = true by simp [sameL]]
            rintro e w7 ⟨rfl, hbw7⟩
            go_wp2_with fail
            go_ret
            exact ⟨rfl, hbz.trans (hbw7.mono (by omega))⟩

set_option maxRecDepth 100000 in
set_option maxRecDepth 100000 in
theorem snapMore_lifted (os : Os) (started : os.Started) (H : Type) (enc : TypeId × Value → H) :
    ReturnsInHanded {} Try.checked os 3 .any (Rows.snapMoreSpec.pre6 enc Try.prog Try.f3 Rows.snapMoreRow.domain false) (Rows.snapMoreSpec.post enc Try.prog Try.f3 false true false false) := by
  refine law_lifted started (by kernel_rfl) Try.func3 rfl rfl ?_ (by kernel_rfl)
    (ChangeSpec.witness6 (enc := enc) (C := Try.checked) false ⟨#[], #[.slice none 0 0, .agg #[.int .i64 0, .int .i64 0, .string ⟨#[]⟩]], []⟩ 8 (by kernel_rfl) (by kernel_rfl) (by kernel_rfl) (by kernel_rfl)) ?_
  · intro ds hd
    match ds, hd with
    | [d1, d2], _ => exact ⟨rfl, rfl, rfl⟩
  · intro W base args ds ps hval hA hlt
    rw [Try.params3] at hA hval
    obtain ⟨v0, v1, d0, d1, p0, p1, rfl, rfl, rfl, h0, h1⟩ := trodAll_two hA
    obtain ⟨A, n, c, l, rfl, hl, _⟩ := open_snaps (hval 0 22 v0 rfl rfl) h0
    obtain ⟨s, rfl, _⟩ := open_snap (hval 1 24 v1 rfl rfl) h1
    exact snapMore_walk A n c l s W hl

theorem snapMore_holds : Rows.SnapMoreSaid :=
  OpenClaim.holds_of_wide 3 Try.f3 rfl rfl rfl rfl rfl rfl rfl ⟨rfl, rfl, rfl, rfl, rfl⟩ rfl rfl rfl rfl rfl (by kernel_rfl) Try.func3 (by kernel_rfl)
    (of_decide_eq_true (by kernel_rfl)) (by unfold Func.isWrapper; rw [if_neg (of_decide_eq_false (by kernel_rfl))]; exact ⟨rfl, rfl⟩)
    (fun os started H enc _ => snapMore_lifted os started H enc)
#print axioms snapMore_holds
end Go.Proofs.Ytbhbkllclookhaa
