/-
  The contracts of slices.Clone at snapshots and of snap.Add.
-/
import Derived.Test.YtbhbkllclookhaaSnapC
import Derived.Test.YtbhbkllclookhaaSnapOwn
import Derived.Deep.DeepFit
import Derived.Deep.DrawnRows
namespace Go.Proofs.Ytbhbkllclookhaa
open Go.RowKit
attribute [local go_sem ↓] Go.wp_at_zero Go.wp_at_succ

set_option maxHeartbeats 1000000 in
theorem clone_snap (A : Option Addr) (n c : Nat) (l : List Snap) (w : World) (h : SnapsAt w w.heap.size A n l) (hn9 : n ≤ 1000000) :
    Calls Try.prog 57 #[.slice A n c] w fun e w' => ∃ v, e = .returned v ∧ SnapsOwn w' w.heap.size v l ∧ Below w.heap.size w w' := by
  have hn := h.2.1
  have heq := fun (W : World) => Lib.run_eql_slice_nil (P := Try.prog) W 22 24 A n c 0 0 Try.underlying22
  cases A with
  | none =>
    have h0 : n = 0 := by
      rcases Nat.eq_zero_or_pos n with h0 | h0
      · exact h0
      · obtain ⟨_, _, e, _⟩ := h.2.2 h0; cases e
    have hl : l = [] := List.eq_nil_of_length_eq_zero (by rw [h.1]; exact h0)
    subst hl
    clear h0
    go_enter Try.func57, Try.ntmps57
    go_wp2
    go_ret
    exact ⟨.slice none 0 0, rfl, Owns.nil_, (by repeat (first | exact Below.refl _ _ | assumption | refine Below.drew ?_ | refine below_drewN ?_ _ | refine Below.alloc ?_ (by first | omega | (simp; try omega)) _ | refine Below.setCell ?_ (by first | omega | (simp; try omega)) _ | (refine Below.trans ?_ (Below.mono (by assumption) (by first | omega | (simp; try omega))))))⟩
  | some a =>
    go_enter Try.func57, Try.ntmps57
    go_wp2_with (at_builtin; go_must (refine wpList_append_snaps rfl (.tmp 5) (.tmp 6) rfl w.heap.size (.slice (some ⟨w.heap.size, 0, none⟩) 0 0) [] rfl (some a) n c l rfl (Owns.empty w rfl (Nat.le_refl _)) w.heap.size (h.below (by repeat (first | exact Below.refl _ _ | assumption | refine Below.drew ?_ | refine below_drewN ?_ _ | refine Below.alloc ?_ (by first | omega | (simp; try omega)) _ | refine Below.setCell ?_ (by first | omega | (simp; try omega)) _ | (refine Below.trans ?_ (Below.mono (by assumption) (by first | omega | (simp; try omega))))))) (by simp; omega) (by first | omega | (simp; try omega)) ?_; intro v' w1 hown hg hat))
    go_ret
    rw [List.nil_append] at hown
    exact ⟨v', rfl, hown, Below.own (k := 3) (enc := Snap.cells) (by repeat (first | exact Below.refl _ _ | assumption | refine Below.drew ?_ | refine below_drewN ?_ _ | refine Below.alloc ?_ (by first | omega | (simp; try omega)) _ | refine Below.setCell ?_ (by first | omega | (simp; try omega)) _ | (refine Below.trans ?_ (Below.mono (by assumption) (by first | omega | (simp; try omega)))))) (Owns.empty w rfl (Nat.le_refl _)) (by first | omega | (simp; try omega)) hg⟩

/-- What Add answers. -/
def addRes (l : List Snap) (s : Snap) : List Snap × Int :=
  if mayL l then if mayOne s && decide (lastOf l l.length < s.id) then if l.length = 32 then ([], 40) else (l ++ [s], 0) else ([], 1) else ([], 4)

set_option maxHeartbeats 3000000 in
set_option maxRecDepth 100000 in
theorem snap_Add (A : Option Addr) (n c : Nat) (l : List Snap) (s : Snap) (w : World) (h : SnapsAt w w.heap.size A n l) :
    Calls Try.prog 18 #[.slice A n c, s.agg] w fun e w' => ∃ v, e = .returned (.tuple #[v, .int .i64 (addRes l s).2]) ∧ SnapsOwn w' w.heap.size v (addRes l s).1 ∧ Below w.heap.size w w' := by
  have hn := h.2.1
  have hl := Lib.hid h.1
  unfold Snap.agg
  cases hm : mayL l
  · go_enter Try.func18, Try.ntmps18
    go_wp2_with (go_at_call 16; refine (snap_May A n c l _ (h.to (by repeat (first | exact Below.refl _ _ | assumption | refine Below.drew ?_ | refine below_drewN ?_ _ | refine Below.alloc ?_ (by first | omega | (simp; try omega)) _ | refine Below.setCell ?_ (by first | omega | (simp; try omega)) _ | (refine Below.trans ?_ (Below.mono (by assumption) (by first | omega | (simp; try omega)))))))).mono ?_; rintro e w1 ⟨rfl, hbw1⟩; obtain ⟨hcw1, hfw1⟩ := bcell hbw1; (try simp only [World.size_drew, World.cell?_drew, World.frozen?_drew, World.heap_drewN, World.cell?_drewN, World.frozen?_drewN] at hcw1 hfw1); have hzw1 := hbw1.size; (try simp at hzw1); (try have hlw1 := (by omega : w.heap.size < w1.heap.size)); (try have hmw1 := (by omega : w.heap.size + 1 < w1.heap.size)); (try have hnw1 := (by omega : w.heap.size + 1 + 1 < w1.heap.size)))
    go_ret2
    exact ⟨.slice none 0 0, by simp [addRes, hm], by simp only [addRes, hm]; exact Owns.nil_, (by repeat (first | exact Below.refl _ _ | assumption | refine Below.drew ?_ | refine below_drewN ?_ _ | refine Below.alloc ?_ (by first | omega | (simp; try omega)) _ | refine Below.setCell ?_ (by first | omega | (simp; try omega)) _ | (refine Below.trans ?_ (Below.mono (by assumption) (by first | omega | (simp; try omega))))))⟩
  · have hn32 : n ≤ 32 := by have := hl.out; simp [mayL] at hm; omega
    cases hs : mayOne s
    · go_enter Try.func18, Try.ntmps18
      go_wp2_with (go_at_call 16; refine (snap_May A n c l _ (h.to (by repeat (first | exact Below.refl _ _ | assumption | refine Below.drew ?_ | refine below_drewN ?_ _ | refine Below.alloc ?_ (by first | omega | (simp; try omega)) _ | refine Below.setCell ?_ (by first | omega | (simp; try omega)) _ | (refine Below.trans ?_ (Below.mono (by assumption) (by first | omega | (simp; try omega)))))))).mono ?_; rintro e w1 ⟨rfl, hbw1⟩; obtain ⟨hcw1, hfw1⟩ := bcell hbw1; (try simp only [World.size_drew, World.cell?_drew, World.frozen?_drew, World.heap_drewN, World.cell?_drewN, World.frozen?_drewN] at hcw1 hfw1); have hzw1 := hbw1.size; (try simp at hzw1); (try have hlw1 := (by omega : w.heap.size < w1.heap.size)); (try have hmw1 := (by omega : w.heap.size + 1 < w1.heap.size)); (try have hnw1 := (by omega : w.heap.size + 1 + 1 < w1.heap.size)))
      (refine wp_region_ext (w1.heap.size) (by kernel_rfl) (by kernel_rfl) ?_
       repeat (go_big_quiet_step ((go_at_call 17; refine Calls.ext (Nat.le_refl _) (hs ▸ snap_MayOne s _))))
       refine wpQuiet_nil ?_
       intro w2 hw'
       have hbw2 := Ext.of hw'
       clear hw'
       obtain ⟨hcw2, hfw2⟩ := bcell hbw2; (try simp only [World.size_drew, World.cell?_drew, World.frozen?_drew, World.heap_drewN, World.cell?_drewN, World.frozen?_drewN] at hcw2 hfw2); have hzw2 := hbw2.size; (try simp at hzw2); (try have hlw2 := (by omega : w.heap.size < w2.heap.size)); (try have hmw2 := (by omega : w.heap.size + 1 < w2.heap.size)); (try have hnw2 := (by omega : w.heap.size + 1 + 1 < w2.heap.size)))
      go_wp2
      go_ret2
      exact ⟨.slice none 0 0, by simp [addRes, hm, hs], by simp only [addRes, hm, hs]; exact Owns.nil_, (by repeat (first | exact Below.refl _ _ | assumption | refine Below.drew ?_ | refine below_drewN ?_ _ | refine Below.alloc ?_ (by first | omega | (simp; try omega)) _ | refine Below.setCell ?_ (by first | omega | (simp; try omega)) _ | (refine Below.trans ?_ (Below.mono (by assumption) (by first | omega | (simp; try omega))))))⟩
    · have hcase : Hid (lastOf l l.length < s.id ↔ (n = 0 ∨ lastOf l n < s.id)) := by
        have h1 := hl.out
        have h2 := mayOne_pos hs
        unfold Hid
        rw [h1]
        constructor
        · intro h; exact .inr h
        · rintro (h | h)
          · subst h; simp [lastOf]; exact h2
          · exact h
      have hone : Hid (∀ W : World, Calls Try.prog 17 #[s.agg] W fun e w' => e = .returned (.bool true) ∧ Below W.heap.size W w') := fun W => hs ▸ snap_MayOne s W
      by_cases h0 : n = 0
      · have hadd : Hid (addRes l s = (l ++ [s], 0)) := by
          have h1 := hcase.out.2 (.inl h0)
          unfold Hid addRes
          rw [if_pos hm, if_pos (by rw [hs]; simpa using h1), if_neg (by rw [hl.out]; omega)]
        have h32' : ((n : Int) == 32) = false := by simp; omega
        have hg0 : decide (0 < n) = false := by simp; omega
        replace h0 := Lib.hid h0
        go_enter Try.func18, Try.ntmps18
        go_wp2_with (go_at_call 16; refine (snap_May A n c l _ (h.to (by repeat (first | exact Below.refl _ _ | assumption | refine Below.drew ?_ | refine below_drewN ?_ _ | refine Below.alloc ?_ (by first | omega | (simp; try omega)) _ | refine Below.setCell ?_ (by first | omega | (simp; try omega)) _ | (refine Below.trans ?_ (Below.mono (by assumption) (by first | omega | (simp; try omega)))))))).mono ?_; rintro e w1 ⟨rfl, hbw1⟩; obtain ⟨hcw1, hfw1⟩ := bcell hbw1; (try simp only [World.size_drew, World.cell?_drew, World.frozen?_drew, World.heap_drewN, World.cell?_drewN, World.frozen?_drewN] at hcw1 hfw1); have hzw1 := hbw1.size; (try simp at hzw1); (try have hlw1 := (by omega : w.heap.size < w1.heap.size)); (try have hmw1 := (by omega : w.heap.size + 1 < w1.heap.size)); (try have hnw1 := (by omega : w.heap.size + 1 + 1 < w1.heap.size)))
        (refine wp_region_ext (w1.heap.size) (by kernel_rfl) (by kernel_rfl) ?_
         repeat (go_big_quiet_step ((go_at_call 17; refine Calls.ext (Nat.le_refl _) (hone.out _))))
         refine wpQuiet_nil ?_
         intro w2 hw'
         have hbw2 := Ext.of hw'
         clear hw'
         obtain ⟨hcw2, hfw2⟩ := bcell hbw2; (try simp only [World.size_drew, World.cell?_drew, World.frozen?_drew, World.heap_drewN, World.cell?_drewN, World.frozen?_drewN] at hcw2 hfw2); have hzw2 := hbw2.size; (try simp at hzw2); (try have hlw2 := (by omega : w.heap.size < w2.heap.size)); (try have hmw2 := (by omega : w.heap.size + 1 < w2.heap.size)); (try have hnw2 := (by omega : w.heap.size + 1 + 1 < w2.heap.size)))
        go_wp2_with fail
        have k0 : w2.cell? ⟨w.heap.size, 0, none⟩ = some (.int .i64 s.id) := by go_simp
        have k1 : w2.cell? ⟨w.heap.size, 1, none⟩ = some (.int .i64 s.time) := by go_simp
        have k2 : w2.cell? ⟨w.heap.size, 2, none⟩ = some (.string s.root) := by go_simp
        have hbb : Below w.heap.size w w2 := (by repeat (first | exact Below.refl _ _ | assumption | refine Below.drew ?_ | refine below_drewN ?_ _ | refine Below.alloc ?_ (by first | omega | (simp; try omega)) _ | refine Below.setCell ?_ (by first | omega | (simp; try omega)) _ | (refine Below.trans ?_ (Below.mono (by assumption) (by first | omega | (simp; try omega))))))
        have h9 := h.to hbb
        go_region_law (first
          | ((refine step_append_snap (by rfl) (.tmp 36) (.tmp 38) (by rfl) w2.heap.size v3 l (by rfl) _ _ s (by rfl) (by (repeat (first | with_reducible refine Owns.alloc ?_ _ | with_reducible refine Owns.drew ?_ | with_reducible refine Owns.drewN ?_ _)); exact Owns.base hown (by first | omega | (simp; try omega))) (by go_simp) (by go_simp) (by go_simp) (by have := hl.out; omega) (by first | omega | (simp; try omega)) ?_); intro v4 w4 hown4 hg4 hat4)
          | (go_simp; go_at_call 57; go_fit (clone_snap A n c l _ (h9.to (by repeat (first | exact Below.refl _ _ | assumption | refine Below.drew ?_ | refine below_drewN ?_ _ | refine Below.alloc ?_ (by first | omega | (simp; try omega)) _ | refine Below.setCell ?_ (by first | omega | (simp; try omega)) _ | (refine Below.trans ?_ (Below.mono (by assumption) (by first | omega | (simp; try omega))))))) (by omega)); rintro e w3 ⟨v3, rfl, hown, hbw3⟩; obtain ⟨hcw3, hfw3⟩ := bcell hbw3; (try simp only [World.size_drew, World.cell?_drew, World.frozen?_drew, World.heap_drewN, World.cell?_drewN, World.frozen?_drewN] at hcw3 hfw3); have hzw3 := hbw3.size; (try simp at hzw3); (try have hlw3 := (by omega : w.heap.size < w3.heap.size)); (try have hmw3 := (by omega : w.heap.size + 1 < w3.heap.size)); (try have hnw3 := (by omega : w.heap.size + 1 + 1 < w3.heap.size))))
        all_goals
          go_wp2
          go_ret2
          refine ⟨v4, ?_, ?_, ?_⟩
          · rw [hadd.out]; rfl
          · rw [hadd.out]; exact hown4.base (by omega)
          · exact Below.own (k := 3) (enc := Snap.cells) (T := 24) (l := l) (by repeat (first | exact Below.refl _ _ | assumption | refine Below.drew ?_ | refine below_drewN ?_ _ | refine Below.alloc ?_ (by first | omega | (simp; try omega)) _ | refine Below.setCell ?_ (by first | omega | (simp; try omega)) _ | (refine Below.trans ?_ (Below.mono (by assumption) (by first | omega | (simp; try omega)))))) (by (repeat (first | with_reducible refine Owns.alloc ?_ _ | with_reducible refine Owns.drew ?_ | with_reducible refine Owns.drewN ?_ _)); exact Owns.base (B' := w.heap.size) hown (by first | omega | (simp; try omega))) (by first | omega | (simp; try omega)) hg4
      · have hpos : 0 < n := by omega
        obtain ⟨t, ht⟩ := getElem_some (l := l) (i := n - 1) (by have := hl.out; omega)
        have hlast : lastOf l n = t.id := by
          have := lastOf_succ ht
          rwa [Nat.sub_add_cancel hpos] at this
        obtain ⟨b0, f0, rfl, hb0⟩ := h.addr hpos
        have hi0 : (0 : Int) ≤ (n : Int) - 1 := by omega
        have hi1 : (n : Int) - 1 < (n : Int) := by omega
        have hg0 : decide (0 < n) = true := by simpa using hpos
        replace ht := Lib.hid ht
        by_cases hlt : t.id < s.id
        · have hle : decide (s.id ≤ t.id) = false := by simp; omega
          by_cases h32 : n = 32
          · have hadd : Hid (addRes l s = ([], 40)) := by
              have h1 := hcase.out.2 (.inr (by omega))
              unfold Hid addRes
              rw [if_pos hm, if_pos (by rw [hs]; simpa using h1), if_pos (by rw [hl.out]; exact h32)]
            have h32' : ((n : Int) == 32) = true := by simp; omega
            replace h32 := Lib.hid h32
            replace hlast := Lib.hid hlast
            replace hlt := Lib.hid hlt
            go_enter Try.func18, Try.ntmps18
            go_wp2_with (go_at_call 16; refine (snap_May _ n c l _ (h.to (by repeat (first | exact Below.refl _ _ | assumption | refine Below.drew ?_ | refine below_drewN ?_ _ | refine Below.alloc ?_ (by first | omega | (simp; try omega)) _ | refine Below.setCell ?_ (by first | omega | (simp; try omega)) _ | (refine Below.trans ?_ (Below.mono (by assumption) (by first | omega | (simp; try omega)))))))).mono ?_; rintro e w1 ⟨rfl, hbw1⟩; obtain ⟨hcw1, hfw1⟩ := bcell hbw1; (try simp only [World.size_drew, World.cell?_drew, World.frozen?_drew, World.heap_drewN, World.cell?_drewN, World.frozen?_drewN] at hcw1 hfw1); have hzw1 := hbw1.size; (try simp at hzw1); (try have hlw1 := (by omega : w.heap.size < w1.heap.size)); (try have hmw1 := (by omega : w.heap.size + 1 < w1.heap.size)); (try have hnw1 := (by omega : w.heap.size + 1 + 1 < w1.heap.size)))
            have hb1 : Below w.heap.size w w1 := (by repeat (first | exact Below.refl _ _ | assumption | refine Below.drew ?_ | refine below_drewN ?_ _ | refine Below.alloc ?_ (by first | omega | (simp; try omega)) _ | refine Below.setCell ?_ (by first | omega | (simp; try omega)) _ | (refine Below.trans ?_ (Below.mono (by assumption) (by first | omega | (simp; try omega))))))
            obtain ⟨z0, _, _⟩ := (h.to hb1).snapEx ht.out; obtain ⟨y0, _, _⟩ := h.snapEx ht.out
            have hb2 : b0 < w1.heap.size := by omega
            (refine wp_region_ext (w1.heap.size) (by kernel_rfl) (by kernel_rfl) ?_
             repeat (go_big_quiet_step ((go_at_call 17; refine Calls.ext (Nat.le_refl _) (hone.out _))))
             refine wpQuiet_nil ?_
             intro w2 hw'
             have hbw2 := Ext.of hw'
             clear hw'
             obtain ⟨hcw2, hfw2⟩ := bcell hbw2; (try simp only [World.size_drew, World.cell?_drew, World.frozen?_drew, World.heap_drewN, World.cell?_drewN, World.frozen?_drewN] at hcw2 hfw2); have hzw2 := hbw2.size; (try simp at hzw2); (try have hlw2 := (by omega : w.heap.size < w2.heap.size)); (try have hmw2 := (by omega : w.heap.size + 1 < w2.heap.size)); (try have hnw2 := (by omega : w.heap.size + 1 + 1 < w2.heap.size)))
            go_wp2
            go_ret2
            exact ⟨.slice none 0 0, by rw [hadd.out]; rfl, by rw [hadd.out]; exact Owns.nil_, (by repeat (first | exact Below.refl _ _ | assumption | refine Below.drew ?_ | refine below_drewN ?_ _ | refine Below.alloc ?_ (by first | omega | (simp; try omega)) _ | refine Below.setCell ?_ (by first | omega | (simp; try omega)) _ | (refine Below.trans ?_ (Below.mono (by assumption) (by first | omega | (simp; try omega))))))⟩
          · have hadd : Hid (addRes l s = (l ++ [s], 0)) := by
              have h1 := hcase.out.2 (.inr (by omega))
              unfold Hid addRes
              rw [if_pos hm, if_pos (by rw [hs]; simpa using h1), if_neg (by rw [hl.out]; exact h32)]
            have h32' : ((n : Int) == 32) = false := by simp; omega
            replace hlast := Lib.hid hlast
            replace hlt := Lib.hid hlt
            go_enter Try.func18, Try.ntmps18
            go_wp2_with (go_at_call 16; refine (snap_May _ n c l _ (h.to (by repeat (first | exact Below.refl _ _ | assumption | refine Below.drew ?_ | refine below_drewN ?_ _ | refine Below.alloc ?_ (by first | omega | (simp; try omega)) _ | refine Below.setCell ?_ (by first | omega | (simp; try omega)) _ | (refine Below.trans ?_ (Below.mono (by assumption) (by first | omega | (simp; try omega)))))))).mono ?_; rintro e w1 ⟨rfl, hbw1⟩; obtain ⟨hcw1, hfw1⟩ := bcell hbw1; (try simp only [World.size_drew, World.cell?_drew, World.frozen?_drew, World.heap_drewN, World.cell?_drewN, World.frozen?_drewN] at hcw1 hfw1); have hzw1 := hbw1.size; (try simp at hzw1); (try have hlw1 := (by omega : w.heap.size < w1.heap.size)); (try have hmw1 := (by omega : w.heap.size + 1 < w1.heap.size)); (try have hnw1 := (by omega : w.heap.size + 1 + 1 < w1.heap.size)))
            have hb1 : Below w.heap.size w w1 := (by repeat (first | exact Below.refl _ _ | assumption | refine Below.drew ?_ | refine below_drewN ?_ _ | refine Below.alloc ?_ (by first | omega | (simp; try omega)) _ | refine Below.setCell ?_ (by first | omega | (simp; try omega)) _ | (refine Below.trans ?_ (Below.mono (by assumption) (by first | omega | (simp; try omega))))))
            obtain ⟨z0, _, _⟩ := (h.to hb1).snapEx ht.out; obtain ⟨y0, _, _⟩ := h.snapEx ht.out
            have hb2 : b0 < w1.heap.size := by omega
            (refine wp_region_ext (w1.heap.size) (by kernel_rfl) (by kernel_rfl) ?_
             repeat (go_big_quiet_step ((go_at_call 17; refine Calls.ext (Nat.le_refl _) (hone.out _))))
             refine wpQuiet_nil ?_
             intro w2 hw'
             have hbw2 := Ext.of hw'
             clear hw'
             obtain ⟨hcw2, hfw2⟩ := bcell hbw2; (try simp only [World.size_drew, World.cell?_drew, World.frozen?_drew, World.heap_drewN, World.cell?_drewN, World.frozen?_drewN] at hcw2 hfw2); have hzw2 := hbw2.size; (try simp at hzw2); (try have hlw2 := (by omega : w.heap.size < w2.heap.size)); (try have hmw2 := (by omega : w.heap.size + 1 < w2.heap.size)); (try have hnw2 := (by omega : w.heap.size + 1 + 1 < w2.heap.size)))
            go_wp2_with fail
            have k0 : w2.cell? ⟨w.heap.size, 0, none⟩ = some (.int .i64 s.id) := by go_simp
            have k1 : w2.cell? ⟨w.heap.size, 1, none⟩ = some (.int .i64 s.time) := by go_simp
            have k2 : w2.cell? ⟨w.heap.size, 2, none⟩ = some (.string s.root) := by go_simp
            have hbb : Below w.heap.size w w2 := (by repeat (first | exact Below.refl _ _ | assumption | refine Below.drew ?_ | refine below_drewN ?_ _ | refine Below.alloc ?_ (by first | omega | (simp; try omega)) _ | refine Below.setCell ?_ (by first | omega | (simp; try omega)) _ | (refine Below.trans ?_ (Below.mono (by assumption) (by first | omega | (simp; try omega))))))
            have h9 := h.to hbb
            go_region_law (first
              | ((refine step_append_snap (by rfl) (.tmp 36) (.tmp 38) (by rfl) w2.heap.size v3 l (by rfl) _ _ s (by rfl) (by (repeat (first | with_reducible refine Owns.alloc ?_ _ | with_reducible refine Owns.drew ?_ | with_reducible refine Owns.drewN ?_ _)); exact Owns.base hown (by first | omega | (simp; try omega))) (by go_simp) (by go_simp) (by go_simp) (by have := hl.out; omega) (by first | omega | (simp; try omega)) ?_); intro v4 w4 hown4 hg4 hat4)
              | (go_simp; go_at_call 57; go_fit (clone_snap _ n c l _ (h9.to (by repeat (first | exact Below.refl _ _ | assumption | refine Below.drew ?_ | refine below_drewN ?_ _ | refine Below.alloc ?_ (by first | omega | (simp; try omega)) _ | refine Below.setCell ?_ (by first | omega | (simp; try omega)) _ | (refine Below.trans ?_ (Below.mono (by assumption) (by first | omega | (simp; try omega))))))) (by omega)); rintro e w3 ⟨v3, rfl, hown, hbw3⟩; obtain ⟨hcw3, hfw3⟩ := bcell hbw3; (try simp only [World.size_drew, World.cell?_drew, World.frozen?_drew, World.heap_drewN, World.cell?_drewN, World.frozen?_drewN] at hcw3 hfw3); have hzw3 := hbw3.size; (try simp at hzw3); (try have hlw3 := (by omega : w.heap.size < w3.heap.size)); (try have hmw3 := (by omega : w.heap.size + 1 < w3.heap.size)); (try have hnw3 := (by omega : w.heap.size + 1 + 1 < w3.heap.size))))
            all_goals
              go_wp2
              go_ret2
              refine ⟨v4, ?_, ?_, ?_⟩
              · rw [hadd.out]; rfl
              · rw [hadd.out]; exact hown4.base (by omega)
              · exact Below.own (k := 3) (enc := Snap.cells) (T := 24) (l := l) (by repeat (first | exact Below.refl _ _ | assumption | refine Below.drew ?_ | refine below_drewN ?_ _ | refine Below.alloc ?_ (by first | omega | (simp; try omega)) _ | refine Below.setCell ?_ (by first | omega | (simp; try omega)) _ | (refine Below.trans ?_ (Below.mono (by assumption) (by first | omega | (simp; try omega)))))) (by (repeat (first | with_reducible refine Owns.alloc ?_ _ | with_reducible refine Owns.drew ?_ | with_reducible refine Owns.drewN ?_ _)); exact Owns.base (B' := w.heap.size) hown (by first | omega | (simp; try omega))) (by first | omega | (simp; try omega)) hg4
        · have hadd : Hid (addRes l s = ([], 1)) := by
            have h1 : ¬ lastOf l l.length < s.id := fun h => by
              have := hcase.out.1 h
              omega
            unfold Hid addRes
            rw [if_pos hm, if_neg (by rw [hs]; simpa using h1)]
          have hle : decide (s.id ≤ t.id) = true := by simp; omega
          replace hlast := Lib.hid hlast
          replace hlt := Lib.hid hlt
          go_enter Try.func18, Try.ntmps18
          go_wp2_with (go_at_call 16; refine (snap_May _ n c l _ (h.to (by repeat (first | exact Below.refl _ _ | assumption | refine Below.drew ?_ | refine below_drewN ?_ _ | refine Below.alloc ?_ (by first | omega | (simp; try omega)) _ | refine Below.setCell ?_ (by first | omega | (simp; try omega)) _ | (refine Below.trans ?_ (Below.mono (by assumption) (by first | omega | (simp; try omega)))))))).mono ?_; rintro e w1 ⟨rfl, hbw1⟩; obtain ⟨hcw1, hfw1⟩ := bcell hbw1; (try simp only [World.size_drew, World.cell?_drew, World.frozen?_drew, World.heap_drewN, World.cell?_drewN, World.frozen?_drewN] at hcw1 hfw1); have hzw1 := hbw1.size; (try simp at hzw1); (try have hlw1 := (by omega : w.heap.size < w1.heap.size)); (try have hmw1 := (by omega : w.heap.size + 1 < w1.heap.size)); (try have hnw1 := (by omega : w.heap.size + 1 + 1 < w1.heap.size)))
          have hb1 : Below w.heap.size w w1 := (by repeat (first | exact Below.refl _ _ | assumption | refine Below.drew ?_ | refine below_drewN ?_ _ | refine Below.alloc ?_ (by first | omega | (simp; try omega)) _ | refine Below.setCell ?_ (by first | omega | (simp; try omega)) _ | (refine Below.trans ?_ (Below.mono (by assumption) (by first | omega | (simp; try omega))))))
          obtain ⟨z0, _, _⟩ := (h.to hb1).snapEx ht.out; obtain ⟨y0, _, _⟩ := h.snapEx ht.out
          have hb2 : b0 < w1.heap.size := by omega
          (refine wp_region_ext (w1.heap.size) (by kernel_rfl) (by kernel_rfl) ?_
           repeat (go_big_quiet_step ((go_at_call 17; refine Calls.ext (Nat.le_refl _) (hone.out _))))
           refine wpQuiet_nil ?_
           intro w2 hw'
           have hbw2 := Ext.of hw'
           clear hw'
           obtain ⟨hcw2, hfw2⟩ := bcell hbw2; (try simp only [World.size_drew, World.cell?_drew, World.frozen?_drew, World.heap_drewN, World.cell?_drewN, World.frozen?_drewN] at hcw2 hfw2); have hzw2 := hbw2.size; (try simp at hzw2); (try have hlw2 := (by omega : w.heap.size < w2.heap.size)); (try have hmw2 := (by omega : w.heap.size + 1 < w2.heap.size)); (try have hnw2 := (by omega : w.heap.size + 1 + 1 < w2.heap.size)))
          go_wp2
          go_ret2
          exact ⟨.slice none 0 0, by rw [hadd.out]; rfl, by rw [hadd.out]; exact Owns.nil_, (by repeat (first | exact Below.refl _ _ | assumption | refine Below.drew ?_ | refine below_drewN ?_ _ | refine Below.alloc ?_ (by first | omega | (simp; try omega)) _ | refine Below.setCell ?_ (by first | omega | (simp; try omega)) _ | (refine Below.trans ?_ (Below.mono (by assumption) (by first | omega | (simp; try omega))))))⟩
end Go.Proofs.Ytbhbkllclookhaa
