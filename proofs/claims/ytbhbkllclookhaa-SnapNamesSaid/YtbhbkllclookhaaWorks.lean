/-
  The contract of works: the examples are as they are told.
-/
import Derived.Test.YtbhbkllclookhaaOne
namespace Go.Proofs.Ytbhbkllclookhaa
open Go.RowKit
attribute [local go_sem ↓] Go.wp_at_zero Go.wp_at_succ

def twoL : List Snap := [oneSnap 1 5 97, oneSnap 3 2 98]
theorem two_add_c : addRes twoL (oneSnap 3 9 99) = ([], 1) := by decide +kernel
theorem two_add_a : addRes twoL (oneSnap 4 0 97) = (twoL ++ [oneSnap 4 0 97], 0) := by decide +kernel
theorem two_may : mayL twoL = true := by decide +kernel
theorem owt_may : mayL [oneSnap 3 2 98, oneSnap 1 5 97] = false := by decide +kernel

theorem drop_none (A : Option Addr) (n c : Nat) (l : List Snap) (w : World) (h : SnapsAt w w.heap.size A n l) (id : Int) (hm : mayL l = true) (hno : ∀ s ∈ l, s.id ≠ id) :
    Calls Try.prog 21 #[.slice A n c, .int .i64 id] w fun e w' => e = .returned (.tuple #[.slice none 0 0, .int .i64 5]) ∧ Below w.heap.size w w' := by
  have hn := h.2.1
  go_enter Try.func21, Try.ntmps21
  go_wp2_with fail
  refine (snap_find A n c l _ (h.to (by repeat (first | exact Below.refl _ _ | assumption | refine Below.drew ?_ | refine below_drewN ?_ _ | refine Below.alloc ?_ (by first | omega | (simp; try omega)) _ | refine Below.setCell ?_ (by first | omega | (simp; try omega)) _ | (refine Below.trans ?_ (Below.mono (by assumption) (by first | omega | (simp; try omega))))))) id).mono ?_
  rintro e w1 ⟨m, z, rfl, hr, hbw1⟩
  obtain ⟨rfl, rfl⟩ : m = 0 ∧ z = 5 := by
    rcases hr with ⟨h1, _, _⟩ | ⟨_, _, h1, h2⟩ | ⟨_, s, hx, hs, _⟩
    · rw [hm] at h1; cases h1
    · exact ⟨h1, h2⟩
    · exact absurd hs (hno s (List.mem_of_getElem? hx))
  go_wp2
  go_ret2
  exact ⟨rfl, (by repeat (first | exact Below.refl _ _ | assumption | refine Below.drew ?_ | refine below_drewN ?_ _ | refine Below.alloc ?_ (by first | omega | (simp; try omega)) _ | refine Below.setCell ?_ (by first | omega | (simp; try omega)) _ | (refine Below.trans ?_ (Below.mono (by assumption) (by first | omega | (simp; try omega))))))⟩

set_option maxHeartbeats 2000000 in
set_option maxRecDepth 100000 in
theorem works_any (w : World) : Calls Try.prog 15 #[] w fun e w' => e = .returned (.bool true) ∧ Below w.heap.size w w' := by
  go_enter Try.func15, Try.ntmps15
  go_wp2_with fail
  refine (one_lit 1 5 97 _).mono ?_
  rintro e w1 ⟨rfl, hbw1⟩
  have hz1 := hbw1.size
  go_wp2_with fail
  refine (one_lit 3 2 98 _).mono ?_
  rintro e w2 ⟨rfl, hbw2⟩
  have hz2 := hbw2.size
  go_wp2_with fail
  refine (one_lit 3 9 99 _).mono ?_
  rintro e w3 ⟨rfl, hbw3⟩
  obtain ⟨hc3, hf3⟩ := bcell hbw3
  have hz3 := hbw3.size
  simp at hz3
  have hrow : SnapsAt w3 w3.heap.size (some ⟨w2.heap.size, 0, none⟩) 2 twoL := by
    refine ⟨rfl, by omega, fun _ => ⟨_, _, rfl, by omega, fun i x hx j v hv => ?_⟩⟩
    rcases i with _ | _ | i <;> simp [twoL] at hx <;> subst hx <;> rcases j with _ | _ | _ | j <;> simp [Snap.cells, oneSnap] at hv <;> subst hv <;> go_simp
  clear hc3 hf3
  go_wp2_with fail
  refine (snap_Add _ _ _ twoL (oneSnap 3 9 99) _ (hrow.to (by repeat (first | exact Below.refl _ _ | assumption | refine Below.drew ?_ | refine below_drewN ?_ _ | refine Below.alloc ?_ (by first | omega | (simp; try omega)) _ | refine Below.setCell ?_ (by first | omega | (simp; try omega)) _ | (refine Below.trans ?_ (Below.mono (by assumption) (by first | omega | (simp; try omega)))))))).mono ?_
  rw [two_add_c]
  rintro e w4 ⟨v4, rfl, _, hbw4⟩
  have hz4 := hbw4.size
  go_wp2_with fail
  refine (one_lit 4 0 97 _).mono ?_
  rintro e w5 ⟨rfl, hbw5⟩
  have hz5 := hbw5.size
  go_wp2_with fail
  refine (snap_Add _ _ _ twoL (oneSnap 4 0 97) _ (hrow.to (by repeat (first | exact Below.refl _ _ | assumption | refine Below.drew ?_ | refine below_drewN ?_ _ | refine Below.alloc ?_ (by first | omega | (simp; try omega)) _ | refine Below.setCell ?_ (by first | omega | (simp; try omega)) _ | (refine Below.trans ?_ (Below.mono (by assumption) (by first | omega | (simp; try omega)))))))).mono ?_
  rw [two_add_a]
  rintro e w6 ⟨v6, rfl, hown, hbw6⟩
  have hz6 := hbw6.size
  obtain ⟨A6, c6, rfl⟩ : ∃ A c, v6 = .slice A 3 c := hown.form
  have hm3 := hown.row Snap.len
  replace hown := Lib.hid hown
  obtain ⟨b6, f6, rfl, hb6⟩ := hm3.addr (i := 2) (by omega)
  obtain ⟨m0, m1, m2⟩ := hm3.snapEx (i := 2) (s := oneSnap 4 0 97) rfl
  go_wp2_with fail
  refine (drop_none _ _ _ twoL _ (hrow.to (by repeat (first | exact Below.refl _ _ | assumption | refine Below.drew ?_ | refine below_drewN ?_ _ | refine Below.alloc ?_ (by first | omega | (simp; try omega)) _ | refine Below.setCell ?_ (by first | omega | (simp; try omega)) _ | (refine Below.trans ?_ (Below.mono (by assumption) (by first | omega | (simp; try omega))))))) 2 two_may (by decide +kernel)).mono ?_
  rintro e w7 ⟨rfl, hbw7⟩
  have hz7 := hbw7.size
  go_wp2_with fail
  refine (one_lit 5 0 113 _).mono ?_
  rintro e w8 ⟨rfl, hbw8⟩
  have hz8 := hbw8.size
  have hrt : (letterRoot 113).size = 32 := by rfl
  obtain ⟨c1, hc1, hs1⟩ : ∃ c1, c1 = (letterRoot 113).extract 1 32 ∧ c1.size = 31 := ⟨_, rfl, by rfl⟩
  go_wp2_with fail
  rw [← hc1]
  obtain ⟨w9, hw9⟩ : ∃ w9, w9 = w8.alloc (Obj.cells #[Value.int IntKind.i64 5, Value.int IntKind.i64 0, Value.string c1] 24) := ⟨_, rfl⟩
  rw [← hw9]
  have hb9 : Below w8.heap.size w8 w9 := by rw [hw9]; exact (Below.refl _ _).alloc (Nat.le_refl _) _
  have k0 : w9.cell? ⟨w8.heap.size, 0, none⟩ = some (.int .i64 5) := by rw [hw9]; go_simp
  have k1 : w9.cell? ⟨w8.heap.size, 1, none⟩ = some (.int .i64 0) := by rw [hw9]; go_simp
  have k2 : w9.cell? ⟨w8.heap.size, 2, none⟩ = some (.string c1) := by rw [hw9]; go_simp
  have hz9 : w8.heap.size < w9.heap.size := by rw [hw9]; simp
  replace hw9 := Lib.hid hw9
  replace hc1 := Lib.hid hc1
  have hl9 : SnapsAt w9 w9.heap.size (some ⟨w2.heap.size, 0, none⟩) 2 twoL := hrow.to (by repeat (first | exact Below.refl _ _ | assumption | refine Below.drew ?_ | refine below_drewN ?_ _ | refine Below.alloc ?_ (by first | omega | (simp; try omega)) _ | refine Below.setCell ?_ (by first | omega | (simp; try omega)) _ | (refine Below.trans ?_ (Below.mono (by assumption) (by first | omega | (simp; try omega))))))
  have hm9 : SnapsAt w9 w9.heap.size (some ⟨b6, f6, none⟩) 3 (twoL ++ [oneSnap 4 0 97]) := hm3.to (by repeat (first | exact Below.refl _ _ | assumption | refine Below.drew ?_ | refine below_drewN ?_ _ | refine Below.alloc ?_ (by first | omega | (simp; try omega)) _ | refine Below.setCell ?_ (by first | omega | (simp; try omega)) _ | (refine Below.trans ?_ (Below.mono (by assumption) (by first | omega | (simp; try omega))))))
  obtain ⟨l0, l1, l2⟩ := hl9.snapEx (i := 0) (s := oneSnap 1 5 97) rfl
  obtain ⟨l3, l4, l5⟩ := hl9.snapEx (i := 1) (s := oneSnap 3 2 98) rfl
  obtain ⟨m0, m1, m2⟩ := hm9.snapEx (i := 2) (s := oneSnap 4 0 97) rfl
  replace l0 : w9.cell? ⟨w2.heap.size, 0, none⟩ = some (.int .i64 1) := l0
  replace l1 : w9.cell? ⟨w2.heap.size, 1, none⟩ = some (.int .i64 5) := l1
  replace l2 : w9.cell? ⟨w2.heap.size, 2, none⟩ = some (.string (letterRoot 97)) := l2
  replace l3 : w9.cell? ⟨w2.heap.size, 3, none⟩ = some (.int .i64 3) := l3
  replace l4 : w9.cell? ⟨w2.heap.size, 4, none⟩ = some (.int .i64 2) := l4
  replace l5 : w9.cell? ⟨w2.heap.size, 5, none⟩ = some (.string (letterRoot 98)) := l5
  replace m0 : w9.cell? ⟨b6, f6 + 6, none⟩ = some (.int .i64 4) := m0
  replace m1 : w9.cell? ⟨b6, f6 + 6 + 1, none⟩ = some (.int .i64 0) := m1
  replace m2 : w9.cell? ⟨b6, f6 + 6 + 2, none⟩ = some (.string (letterRoot 97)) := m2
  clear hm9 hm3 hown
  replace hl9 := Lib.hid hl9
  replace hrow := Lib.hid hrow
  replace hrt := Lib.hid hrt
  replace hs1 := Lib.hid hs1
  have h2 : w2.heap.size < w9.heap.size := by omega
  have h6 : b6 < w9.heap.size := by omega
  have hS : ∀ W : World, w9.heap.size ≤ W.heap.size → Below w9.heap.size w9 W → (fun W => w9.heap.size ≤ W.heap.size ∧ Below w9.heap.size w9 W ∧ W.cell? ⟨w2.heap.size, 0, none⟩ = some (.int .i64 1) ∧ W.cell? ⟨w2.heap.size, 1, none⟩ = some (.int .i64 5) ∧ W.cell? ⟨w2.heap.size, 2, none⟩ = some (.string (letterRoot 97)) ∧
      W.cell? ⟨w2.heap.size, 3, none⟩ = some (.int .i64 3) ∧ W.cell? ⟨w2.heap.size, 4, none⟩ = some (.int .i64 2) ∧ W.cell? ⟨w2.heap.size, 5, none⟩ = some (.string (letterRoot 98)) ∧
      W.cell? ⟨b6, f6 + 6, none⟩ = some (.int .i64 4) ∧ W.cell? ⟨b6, f6 + 6 + 1, none⟩ = some (.int .i64 0) ∧ W.cell? ⟨b6, f6 + 6 + 2, none⟩ = some (.string (letterRoot 97)) ∧
      W.cell? ⟨w8.heap.size, 0, none⟩ = some (.int .i64 5) ∧ W.cell? ⟨w8.heap.size, 1, none⟩ = some (.int .i64 0) ∧ W.cell? ⟨w8.heap.size, 2, none⟩ = some (.string c1)) W := fun W hz hb =>
    ⟨hz, hb, (hb.cell (p := ⟨_, _, none⟩) h2).trans l0, (hb.cell (p := ⟨_, _, none⟩) h2).trans l1, (hb.cell (p := ⟨_, _, none⟩) h2).trans l2, (hb.cell (p := ⟨_, _, none⟩) h2).trans l3, (hb.cell (p := ⟨_, _, none⟩) h2).trans l4, (hb.cell (p := ⟨_, _, none⟩) h2).trans l5,
      (hb.cell (p := ⟨_, _, none⟩) h6).trans m0, (hb.cell (p := ⟨_, _, none⟩) h6).trans m1, (hb.cell (p := ⟨_, _, none⟩) h6).trans m2, (hb.cell (p := ⟨_, _, none⟩) hz9).trans k0, (hb.cell (p := ⟨_, _, none⟩) hz9).trans k1, (hb.cell (p := ⟨_, _, none⟩) hz9).trans k2⟩
  replace hS := Lib.hid hS
  go_region_held3 (fun W => w9.heap.size ≤ W.heap.size ∧ Below w9.heap.size w9 W ∧ W.cell? ⟨w2.heap.size, 0, none⟩ = some (.int .i64 1) ∧ W.cell? ⟨w2.heap.size, 1, none⟩ = some (.int .i64 5) ∧ W.cell? ⟨w2.heap.size, 2, none⟩ = some (.string (letterRoot 97)) ∧
      W.cell? ⟨w2.heap.size, 3, none⟩ = some (.int .i64 3) ∧ W.cell? ⟨w2.heap.size, 4, none⟩ = some (.int .i64 2) ∧ W.cell? ⟨w2.heap.size, 5, none⟩ = some (.string (letterRoot 98)) ∧
      W.cell? ⟨b6, f6 + 6, none⟩ = some (.int .i64 4) ∧ W.cell? ⟨b6, f6 + 6 + 1, none⟩ = some (.int .i64 0) ∧ W.cell? ⟨b6, f6 + 6 + 2, none⟩ = some (.string (letterRoot 97)) ∧
      W.cell? ⟨w8.heap.size, 0, none⟩ = some (.int .i64 5) ∧ W.cell? ⟨w8.heap.size, 1, none⟩ = some (.int .i64 0) ∧ W.cell? ⟨w8.heap.size, 2, none⟩ = some (.string c1))
    ((go_split_ands; exact hS.out _ (by first | omega | (simp; try omega)) (by repeat (first | exact Below.refl _ _ | assumption | refine Below.drew ?_ | refine below_drewN ?_ _ | refine Below.alloc ?_ (by first | omega | (simp; try omega)) _ | refine Below.setCell ?_ (by first | omega | (simp; try omega)) _ | (refine Below.trans ?_ (Below.mono (by assumption) (by first | omega | (simp; try omega))))))))
    (first
      | (go_at_call 16; go_split_ands; first
          | ((with_reducible refine (snap_May (some ⟨w2.heap.size, 0, none⟩) 2 2 twoL _ (hl9.out.to (by assumption))).mono ?_); rw [two_may]; rintro e w10 ⟨rfl, hbw10⟩; obtain ⟨hcw10, hfw10⟩ := bcell hbw10; (try simp only [World.size_drew, World.cell?_drew, World.frozen?_drew, World.heap_drewN, World.cell?_drewN, World.frozen?_drewN] at hcw10 hfw10); have hzw10 := hbw10.size; (try simp at hzw10); (try have hlw10 := (by omega : w.heap.size < w10.heap.size)); (try have hmw10 := (by omega : w.heap.size + 1 < w10.heap.size)); (try have hnw10 := (by omega : w.heap.size + 1 + 1 < w10.heap.size)))
          | ((refine (snap_May _ _ _ [oneSnap 3 2 98, oneSnap 1 5 97] _ ?_).mono ?_); (refine ⟨rfl, by omega, fun _ => ⟨_, _, rfl, (by first | omega | (simp; try omega)), fun i x hx j v hv => ?_⟩⟩; (rcases i with _ | _ | i <;> simp at hx <;> subst hx <;> rcases j with _ | _ | _ | j <;> simp [Snap.cells, oneSnap] at hv <;> subst hv <;> go_simp)); rw [owt_may]; rintro e w11 ⟨rfl, hbw11⟩; obtain ⟨hcw11, hfw11⟩ := bcell hbw11; (try simp only [World.size_drew, World.cell?_drew, World.frozen?_drew, World.heap_drewN, World.cell?_drewN, World.frozen?_drewN] at hcw11 hfw11); have hzw11 := hbw11.size; (try simp at hzw11); (try have hlw11 := (by omega : w.heap.size < w11.heap.size)); (try have hmw11 := (by omega : w.heap.size + 1 < w11.heap.size)); (try have hnw11 := (by omega : w.heap.size + 1 + 1 < w11.heap.size))))
      | (go_at_call 24; refine (one_lit 4 0 97 _).mono ?_; rintro e w12 ⟨rfl, hbw12⟩; obtain ⟨hcw12, hfw12⟩ := bcell hbw12; (try simp only [World.size_drew, World.cell?_drew, World.frozen?_drew, World.heap_drewN, World.cell?_drewN, World.frozen?_drewN] at hcw12 hfw12); have hzw12 := hbw12.size; (try simp at hzw12); (try have hlw12 := (by omega : w.heap.size < w12.heap.size)); (try have hmw12 := (by omega : w.heap.size + 1 < w12.heap.size)); (try have hnw12 := (by omega : w.heap.size + 1 + 1 < w12.heap.size)))
      | (go_at_call 17; refine (snap_MayOne ⟨5, 0, c1⟩ _).mono ?_; rw [show mayOne ⟨5, 0, c1⟩ = false by simp [mayOne, hs1.out]]; rintro e w13 ⟨rfl, hbw13⟩; obtain ⟨hcw13, hfw13⟩ := bcell hbw13; (try simp only [World.size_drew, World.cell?_drew, World.frozen?_drew, World.heap_drewN, World.cell?_drewN, World.frozen?_drewN] at hcw13 hfw13); have hzw13 := hbw13.size; (try simp at hzw13); (try have hlw13 := (by omega : w.heap.size < w13.heap.size)); (try have hmw13 := (by omega : w.heap.size + 1 < w13.heap.size)); (try have hnw13 := (by omega : w.heap.size + 1 + 1 < w13.heap.size))))
  go_split_ands
  go_wp2
  go_ret
  exact ⟨rfl, (by repeat (first | exact Below.refl _ _ | assumption | refine Below.drew ?_ | refine below_drewN ?_ _ | refine Below.alloc ?_ (by first | omega | (simp; try omega)) _ | refine Below.setCell ?_ (by first | omega | (simp; try omega)) _ | (refine Below.trans ?_ (Below.mono (by assumption) (by first | omega | (simp; try omega))))))⟩
end Go.Proofs.Ytbhbkllclookhaa
