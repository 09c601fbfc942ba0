/-
  For every list of snapshots, every snapshot and every ID SnapDoes returns true: what is found, added, dropped, and the roots of any list, or how it is refused, are the document's; what was handed in stands, what is handed out may be written over. No condition.
-/
import Derived.Test.YtbhbkllclookhaaRef21
import Derived.Test.YtbhbkllclookhaaPutS
import Derived.Test.YtbhbkllclookhaaLaw
namespace Go.Proofs.Ytbhbkllclookhaa
open Go.ChangeShapes Go.WideShapes Go.ChangeAt Go.RowKit
attribute [local go_sem ↓] Go.wp_at_zero Go.wp_at_succ

/-- The cells of a slice of n elements of k cells each lie in a block from base on, are there, and may be written. -/
def Writ (k : Nat) (w : World) (base : Nat) (A : Option Addr) (n : Nat) : Prop := 0 < n → ∃ b off, A = some ⟨b, off, none⟩ ∧ base ≤ b ∧ ∀ j, j < n * k → (w.cell? ⟨b, off + j, none⟩).isSome = true ∧ w.frozen? ⟨b, off + j, none⟩ = false
theorem Owns.writ {α : Type} {k : Nat} {enc : α → List Value} {T : TypeId} {w : World} {base n c : Nat} {A : Option Addr} {l : List α} (h : Owns k enc T w base (.slice A n c) l) : Writ k w base A n := by
  intro hn
  rcases h.2 with ⟨e, h0⟩ | ⟨g, cap, cur, e, hg, hh, hnc, _, hcs, _⟩
  · simp only [Value.slice.injEq] at e
    omega
  · simp only [Value.slice.injEq] at e
    obtain ⟨rfl, rfl, rfl⟩ := e
    refine ⟨g, 0, rfl, hg, fun j hj => ⟨?_, by simp [World.frozen?, hh]⟩⟩
    have : l.length * k ≤ c * k := Nat.mul_le_mul_right _ hnc
    rw [cell_of_row _ _ _ _ _ _ hh, Array.getElem?_eq_getElem (by omega)]
    rfl
theorem Free.writ {α : Type} {k : Nat} {enc : α → List Value} (hk : ∀ x, (enc x).length = k) {w : World} {B base n : Nat} {A : Option Addr} {l : List α} (h : RowAt k enc w B A n l) (hf : Free k w base A n) : Writ k w base A n := by
  intro hn
  obtain ⟨b, off, rfl, hb, hfr⟩ := hf hn
  refine ⟨b, off, rfl, hb, fun j hj => ⟨?_, hfr j hj⟩⟩
  obtain ⟨b', off', e, _, hc⟩ := h.2.2 hn
  simp only [Option.some.injEq, Addr.mk.injEq] at e
  obtain ⟨rfl, rfl, _⟩ := e
  have hk0 : 0 < k := by rcases Nat.eq_zero_or_pos k with h | h; subst h; omega; exact h
  have hi : j / k < l.length := by rw [h.1, Nat.div_lt_iff_lt_mul hk0]; exact hj
  have hx := List.getElem?_eq_getElem hi
  have hm : j % k < (enc l[j / k]).length := by rw [hk]; exact Nat.mod_lt _ hk0
  have h2 := hc _ _ hx _ _ (List.getElem?_eq_getElem hm)
  have e1 : j / k * k + j % k = j := by rw [Nat.mul_comm]; exact Nat.div_add_mod j k
  rw [Nat.add_assoc, e1] at h2
  rw [h2]
  rfl
theorem Writ.below {k : Nat} {w w' : World} {base n : Nat} {A : Option Addr} (h : Writ k w base A n) (hb : Below w.heap.size w w') : Writ k w' base A n := by
  intro hn
  obtain ⟨b, off, rfl, hb0, hc⟩ := h hn
  refine ⟨b, off, rfl, hb0, fun j hj => ?_⟩
  obtain ⟨u, hu⟩ := Option.isSome_iff_exists.1 (hc j hj).1
  have hlt := World.block_lt_of_cell? w _ hu
  rw [hb.cell (p := ⟨b, off + j, none⟩) hlt, hb.frozen (p := ⟨b, off + j, none⟩) hlt]
  exact hc j hj
theorem Writ.setCell {k : Nat} {w : World} {base n : Nat} {A : Option Addr} (h : Writ k w base A n) (p : Addr) (v : Value) : Writ k (w.setCell p v) base A n := by
  intro hn
  obtain ⟨b, off, rfl, hb0, hc⟩ := h hn
  refine ⟨b, off, rfl, hb0, fun j hj => ⟨?_, by rw [World.frozen?_setCell]; exact (hc j hj).2⟩⟩
  obtain ⟨u, hu⟩ := Option.isSome_iff_exists.1 (hc j hj).1
  obtain ⟨v', hv⟩ := cell?_setCell_some (p := p) (x := v) hu
  rw [hv]
  rfl
theorem Writ.at_ {k : Nat} {w : World} {base n : Nat} {A : Option Addr} (h : Writ k w base A n) {i : Nat} (hi : i < n) (hk : 0 < k) : ∃ b off u, A = some ⟨b, off, none⟩ ∧ base ≤ b ∧ w.cell? ⟨b, off + i * k, none⟩ = some u ∧ w.frozen? ⟨b, off + i * k, none⟩ = false := by
  obtain ⟨b, off, e, hb, hc⟩ := h (by omega)
  have hj : i * k < n * k := (Nat.mul_lt_mul_right hk).2 hi
  obtain ⟨u, hu⟩ := Option.isSome_iff_exists.1 (hc _ hj).1
  exact ⟨b, off, u, e, hb, hu, (hc _ hj).2⟩

set_option maxHeartbeats 16000000 in
set_option maxRecDepth 100000 in
theorem snapDoes_walk (A : Option Addr) (n c : Nat) (l : List Snap) (s : Snap) (id : Int) (w : World) (h : SnapsAt w w.heap.size A n l) :
    Calls Try.prog 7 #[.slice A n c, s.agg, .int .i64 id] w fun e w' => e = .returned (.bool true) ∧ Below w.heap.size w w' := by
  unfold Snap.agg
  have hn := h.2.1
  have hl := Lib.hid h.1
  by_cases h1 : 3000 < n
  · go_enter Try.func7, Try.ntmps7
    go_wp2_with fail
    go_ret
    exact ⟨rfl, (by repeat (first | exact Below.refl _ _ | assumption | refine Below.drew ?_ | refine below_drewN ?_ _ | refine Below.alloc ?_ (by first | omega | (simp; try omega)) _ | refine Below.setCell ?_ (by first | omega | (simp; try omega)) _ | (refine Below.trans ?_ (Below.mono (by assumption) (by first | omega | (simp; try omega))))))⟩
  obtain ⟨R1, z1, hadd⟩ : ∃ R z, addRes l s = (R, z) := ⟨_, _, rfl⟩
  obtain ⟨R2, z2, hdrop⟩ : ∃ R z, dropRes l id = (R, z) := ⟨_, _, rfl⟩
  obtain ⟨R3, z3, hroot⟩ : ∃ R z, rootsRes l = (R, z) := ⟨_, _, rfl⟩
  obtain ⟨f, z4, hfind⟩ : ∃ R z, findRes l id = (R, z) := ⟨_, _, rfl⟩
  have hz1 : (z1 != z1) = false := by simp
  have hz2 : (z2 != z2) = false := by simp
  have hz3 : (z3 != z3) = false := by simp
  have hz4 : (z4 != z4) = false := by simp
  replace hadd := Lib.hid hadd
  replace hdrop := Lib.hid hdrop
  replace hroot := Lib.hid hroot
  replace hfind := Lib.hid hfind
  go_enter Try.func7, Try.ntmps7
  go_wp2_with (at_builtin; go_must (refine wpList_append_snaps rfl (.tmp 31) (.tmp 32) rfl (w.heap.size + 1) (.slice (some ⟨w.heap.size + 1, 0, none⟩) 0 0) [] rfl A n c l rfl (Owns.empty _ (by simp) (Nat.le_refl _)) w.heap.size (h.below (by repeat (first | exact Below.refl _ _ | assumption | refine Below.drew ?_ | refine below_drewN ?_ _ | refine Below.alloc ?_ (by first | omega | (simp; try omega)) _ | refine Below.setCell ?_ (by first | omega | (simp; try omega)) _ | (refine Below.trans ?_ (Below.mono (by assumption) (by first | omega | (simp; try omega))))))) (by simp; omega) (by first | omega | (simp; try omega)) ?_); intro v1 w1 hown1 hg1 hat1)
  have hb1 : Below (w.heap.size + 1) (w.alloc (.cells #[.int .i64 s.id, .int .i64 s.time, .string s.root] 24)) w1 := Below.grown (by repeat (first | exact Below.refl _ _ | assumption | refine Below.drew ?_ | refine below_drewN ?_ _ | refine Below.alloc ?_ (by first | omega | (simp; try omega)) _ | refine Below.setCell ?_ (by first | omega | (simp; try omega)) _ | (refine Below.trans ?_ (Below.mono (by assumption) (by first | omega | (simp; try omega)))))) hg1 (by first | omega | (simp; try omega)) (fun _ hi => by cases hi; first | omega | (simp; try omega))
  have hz01 := hb1.size
  simp at hz01
  have hw1 : Below w.heap.size w w1 := (by repeat (first | exact Below.refl _ _ | assumption | refine Below.drew ?_ | refine below_drewN ?_ _ | refine Below.alloc ?_ (by first | omega | (simp; try omega)) _ | refine Below.setCell ?_ (by first | omega | (simp; try omega)) _ | (refine Below.trans ?_ (Below.mono (by assumption) (by first | omega | (simp; try omega))))))
  have hlt1 : w.heap.size < w1.heap.size := by omega
  obtain ⟨hcw1, _⟩ := bcell (hb1.mono (show (w.alloc (.cells #[.int .i64 s.id, .int .i64 s.time, .string s.root] 24)).heap.size ≤ w.heap.size + 1 by simp))
  have k0 : w1.cell? ⟨w.heap.size, 0, none⟩ = some (.int .i64 s.id) := by go_simp
  have k1 : w1.cell? ⟨w.heap.size, 1, none⟩ = some (.int .i64 s.time) := by go_simp
  have k2 : w1.cell? ⟨w.heap.size, 2, none⟩ = some (.string s.root) := by go_simp
  have hbox : Hid (∀ W : World, Below w1.heap.size w1 W → W.cell? ⟨w.heap.size, 0, none⟩ = some (.int .i64 s.id) ∧ W.cell? ⟨w.heap.size, 1, none⟩ = some (.int .i64 s.time) ∧ W.cell? ⟨w.heap.size, 2, none⟩ = some (.string s.root)) :=
    fun W hb => ⟨(hb.cell (p := ⟨_, _, none⟩) hlt1).trans k0, (hb.cell (p := ⟨_, _, none⟩) hlt1).trans k1, (hb.cell (p := ⟨_, _, none⟩) hlt1).trans k2⟩
  obtain ⟨A1, n1, c1, rfl, hr1⟩ : ∃ A n c, v1 = .slice A n c ∧ SnapsAt w1 w1.heap.size A n l := by
    have := hown1.view Snap.len
    simpa using this
  have hl1 := h.to hw1
  clear hown1 hcw1 k0 k1 k2 hg1 hat1
  have hsame : ∀ R : List Snap, sameL R R = true := fun R => by simp [sameL]
  replace hsame := Lib.hid hsame
  go_wp2_with fail
  go_loopw [8, 9, 10, 11, 12, 13, 14, 15, 16, 17, 18, 19, 20, 21, 22, 23, 24, 25, 26, 27] (fun i _ _ _ _ _ _ _ _ _ _ _ _ _ _ _ _ _ _ _ wr => ∃ r : Nat, r ≤ 2 ∧ i = .int .i64 r ∧ Below w1.heap.size w1 wr) (fun i _ _ _ _ _ _ _ _ _ _ _ _ _ _ _ _ _ _ _ _ => 2 - (intOf i).toNat)
  case atStart => exact ⟨0, by omega, rfl, Below.refl _ _⟩
  case round =>
    obtain ⟨r, hr2, rfl, hbr⟩ := hrel
    have hzr := hbr.size
    obtain ⟨wo, rfl⟩ : ∃ wo : World, wo = wr := ⟨_, rfl⟩
    by_cases hlt : r < 2
    · obtain ⟨j0, j1, j2⟩ := hbox.out wo hbr
      go_wp2_with fail
      refine (snap_Add A1 n1 c1 l s wo (hr1.to hbr)).mono ?_
      rw [hadd.out]
      rintro e w2 ⟨v2, rfl, hown2, hbw2⟩
      have hzw2 := hbw2.size
      have hb2 : Below w1.heap.size w1 w2 := (by repeat (first | exact Below.refl _ _ | assumption | refine Below.drew ?_ | refine below_drewN ?_ _ | refine Below.alloc ?_ (by first | omega | (simp; try omega)) _ | refine Below.setCell ?_ (by first | omega | (simp; try omega)) _ | (refine Below.trans ?_ (Below.mono (by assumption) (by first | omega | (simp; try omega))))))
      obtain ⟨A2, m2, c2, rfl, hr2'⟩ := hown2.view Snap.len
      have hwr2 : Writ 3 w2 w1.heap.size A2 m2 := (hown2.base hzr).writ
      clear hown2 j0 j1 j2
      obtain ⟨j0, j1, j2⟩ := hbox.out w2 hb2
      go_wp2_with fail
      refine (ref21_Add A n c l s w2 (hl1.to hb2)).mono ?_
      rw [hadd.out]
      rintro e w3 ⟨v3, rfl, hown3, hbw3⟩
      have hzw3 := hbw3.size
      have hb3 : Below w1.heap.size w1 w3 := (by repeat (first | exact Below.refl _ _ | assumption | refine Below.drew ?_ | refine below_drewN ?_ _ | refine Below.alloc ?_ (by first | omega | (simp; try omega)) _ | refine Below.setCell ?_ (by first | omega | (simp; try omega)) _ | (refine Below.trans ?_ (Below.mono (by assumption) (by first | omega | (simp; try omega))))))
      obtain ⟨A3, m3, c3, rfl, hr3⟩ := hown3.view Snap.len
      clear hown3 j0 j1 j2
      go_wp2_with fail
      refine (snap_Drop A1 n1 c1 l w3 (hr1.to hb3) id).mono ?_
      rw [hdrop.out]
      rintro e w4 ⟨A4, m4, c4, rfl, hr4, hf4, hbw4⟩
      have hzw4 := hbw4.size
      have hb4 : Below w1.heap.size w1 w4 := (by repeat (first | exact Below.refl _ _ | assumption | refine Below.drew ?_ | refine below_drewN ?_ _ | refine Below.alloc ?_ (by first | omega | (simp; try omega)) _ | refine Below.setCell ?_ (by first | omega | (simp; try omega)) _ | (refine Below.trans ?_ (Below.mono (by assumption) (by first | omega | (simp; try omega))))))
      have hwr4 : Writ 3 w4 w3.heap.size A4 m4 := Free.writ Snap.len hr4 hf4
      go_wp2_with fail
      refine (ref21_Drop A n c l w4 (hl1.to hb4) id).mono ?_
      rw [hdrop.out]
      rintro e w5 ⟨v5, rfl, hown5, hbw5⟩
      have hzw5 := hbw5.size
      have hb5 : Below w1.heap.size w1 w5 := (by repeat (first | exact Below.refl _ _ | assumption | refine Below.drew ?_ | refine below_drewN ?_ _ | refine Below.alloc ?_ (by first | omega | (simp; try omega)) _ | refine Below.setCell ?_ (by first | omega | (simp; try omega)) _ | (refine Below.trans ?_ (Below.mono (by assumption) (by first | omega | (simp; try omega))))))
      obtain ⟨A5, m5, c5, rfl, hr5⟩ := hown5.view Snap.len
      clear hown5
      go_wp2_with fail
      refine (snap_Roots A1 n1 c1 l w5 (hr1.to hb5)).mono ?_
      rw [hroot.out]
      rintro e w6 ⟨v6, rfl, hown6, hbw6⟩
      have hzw6 := hbw6.size
      have hb6 : Below w1.heap.size w1 w6 := (by repeat (first | exact Below.refl _ _ | assumption | refine Below.drew ?_ | refine below_drewN ?_ _ | refine Below.alloc ?_ (by first | omega | (simp; try omega)) _ | refine Below.setCell ?_ (by first | omega | (simp; try omega)) _ | (refine Below.trans ?_ (Below.mono (by assumption) (by first | omega | (simp; try omega))))))
      obtain ⟨A6, m6, c6, rfl, hr6⟩ := hown6.view strCell_len
      clear hown6
      go_wp2_with fail
      refine (ref21_Roots A n c l w6 (hl1.to hb6)).mono ?_
      rw [hroot.out]
      rintro e w7 ⟨v7, rfl, hown7, hbw7⟩
      have hzw7 := hbw7.size
      have hb7 : Below w1.heap.size w1 w7 := (by repeat (first | exact Below.refl _ _ | assumption | refine Below.drew ?_ | refine below_drewN ?_ _ | refine Below.alloc ?_ (by first | omega | (simp; try omega)) _ | refine Below.setCell ?_ (by first | omega | (simp; try omega)) _ | (refine Below.trans ?_ (Below.mono (by assumption) (by first | omega | (simp; try omega))))))
      obtain ⟨A7, m7, c7, rfl, hr7⟩ := hown7.view strCell_len
      clear hown7
      go_wp2_with fail
      refine (snap_Find' A1 n1 c1 l w7 (hr1.to hb7) id).mono ?_
      rw [hfind.out]
      simp only [Snap.agg]
      rintro e w8 ⟨rfl, hbw8⟩
      have hzw8 := hbw8.size
      have hb8 : Below w1.heap.size w1 w8 := (by repeat (first | exact Below.refl _ _ | assumption | refine Below.drew ?_ | refine below_drewN ?_ _ | refine Below.alloc ?_ (by first | omega | (simp; try omega)) _ | refine Below.setCell ?_ (by first | omega | (simp; try omega)) _ | (refine Below.trans ?_ (Below.mono (by assumption) (by first | omega | (simp; try omega))))))
      go_wp2_with fail
      refine (ref21_Find A n c l _ ((hl1.to hb8).to (by repeat (first | exact Below.refl _ _ | assumption | refine Below.drew ?_ | refine below_drewN ?_ _ | refine Below.alloc ?_ (by first | omega | (simp; try omega)) _ | refine Below.setCell ?_ (by first | omega | (simp; try omega)) _ | (refine Below.trans ?_ (Below.mono (by assumption) (by first | omega | (simp; try omega))))))) id).mono ?_
      rw [hfind.out]
      simp only [Snap.agg]
      rintro e w9 ⟨rfl, hbw9⟩
      have hzw9 := hbw9.size
      simp at hzw9
      have hb89 : Below w8.heap.size w8 w9 := (by repeat (first | exact Below.refl _ _ | assumption | refine Below.drew ?_ | refine below_drewN ?_ _ | refine Below.alloc ?_ (by first | omega | (simp; try omega)) _ | refine Below.setCell ?_ (by first | omega | (simp; try omega)) _ | (refine Below.trans ?_ (Below.mono (by assumption) (by first | omega | (simp; try omega))))))
      have hb9 : Below w1.heap.size w1 w9 := hb8.trans (hb89.mono (by omega))
      obtain ⟨hcw9, _⟩ := bcell hbw9
      have x0 : w9.cell? ⟨w8.heap.size, 0, none⟩ = some (.int .i64 f.id) := by go_simp
      have x1 : w9.cell? ⟨w8.heap.size, 1, none⟩ = some (.int .i64 f.time) := by go_simp
      have x2 : w9.cell? ⟨w8.heap.size, 2, none⟩ = some (.string f.root) := by go_simp
      have hlt8 : w8.heap.size < w9.heap.size := by omega
      clear hcw9
      have c7 : Below w7.heap.size w7 w9 := hbw8.trans (hb89.mono hzw8)
      have c6 : Below w6.heap.size w6 w9 := hbw7.trans (c7.mono hzw7)
      have c5' : Below w5.heap.size w5 w9 := hbw6.trans (c6.mono hzw6)
      have c4' : Below w4.heap.size w4 w9 := hbw5.trans (c5'.mono hzw5)
      have c3' : Below w3.heap.size w3 w9 := hbw4.trans (c4'.mono hzw4)
      have c2' : Below w2.heap.size w2 w9 := hbw3.trans (c3'.mono hzw3)
      go_wp2_with fail
      obtain ⟨wx, hwx⟩ : ∃ wx, wx = w9.alloc (.cells #[.int .i64 f.id, .int .i64 f.time, .string f.root] 24) := ⟨_, rfl⟩
      rw [← hwx]
      have hbx : Below w9.heap.size w9 wx := by rw [hwx]; exact (Below.refl _ _).alloc (Nat.le_refl _) _
      have hzx : w9.heap.size < wx.heap.size := by rw [hwx]; simp
      have y0 : wx.cell? ⟨w9.heap.size, 0, none⟩ = some (.int .i64 f.id) := by rw [hwx]; go_simp
      have y1 : wx.cell? ⟨w9.heap.size, 1, none⟩ = some (.int .i64 f.time) := by rw [hwx]; go_simp
      have y2 : wx.cell? ⟨w9.heap.size, 2, none⟩ = some (.string f.root) := by rw [hwx]; go_simp
      clear hwx
      have q2 := (hr2'.to c2').to hbx
      have q3 := (hr3.to c3').to hbx
      have q4 := (hr4.to c4').to hbx
      have q5 := (hr5.to c5').to hbx
      have q6 := (hr6.to c6).to hbx
      have q7 := (hr7.to c7).to hbx
      have n2 := q2.2.1
      have n4 := q4.2.1
      have n6 := q6.2.1
      have g2 := (hwr2.below c2').below hbx
      have g4 := (hwr4.below c4').below hbx
      have hb1x : Below w1.heap.size w1 wx := hb9.trans (hbx.mono (by omega))
      have hlx : SnapsAt wx wx.heap.size A n l := hl1.to hb1x
      have hinx : SnapsAt wx wx.heap.size A1 n1 l := hr1.to hb1x
      replace g2 := Lib.hid g2
      replace g4 := Lib.hid g4
      clear hr2' hr3 hr4 hr5 hr6 hr7 hwr2 hwr4 hf4
      refine (ref21_Same A2 A3 m2 m3 c2 c3 R1 R1 wx q2 q3).mono ?_
      rw [hsame.out]
      rintro e wa ⟨rfl, hba⟩
      have hza := hba.size
      go_wp2_with fail
      refine (ref21_Same A4 A5 m4 m5 c4 c5 R2 R2 wa (q4.to hba) (q5.to hba)).mono ?_
      rw [hsame.out]
      rintro e wb ⟨rfl, hbb⟩
      have hzb := hbb.size
      have hbxb : Below wx.heap.size wx wb := hba.trans (hbb.mono hza)
      have u0 := (hbxb.cell (p := ⟨w8.heap.size, 0, none⟩) (show w8.heap.size < wx.heap.size by omega)).trans ((hbx.cell (p := ⟨w8.heap.size, 0, none⟩) hlt8).trans x0)
      have u1 := (hbxb.cell (p := ⟨w8.heap.size, 1, none⟩) (show w8.heap.size < wx.heap.size by omega)).trans ((hbx.cell (p := ⟨w8.heap.size, 1, none⟩) hlt8).trans x1)
      have u2 := (hbxb.cell (p := ⟨w8.heap.size, 2, none⟩) (show w8.heap.size < wx.heap.size by omega)).trans ((hbx.cell (p := ⟨w8.heap.size, 2, none⟩) hlt8).trans x2)
      have t0 := (hbxb.cell (p := ⟨w9.heap.size, 0, none⟩) hzx).trans y0
      have t1 := (hbxb.cell (p := ⟨w9.heap.size, 1, none⟩) hzx).trans y1
      have t2 := (hbxb.cell (p := ⟨w9.heap.size, 2, none⟩) hzx).trans y2
      have e6 : R3.length = m6 := q6.1
      have e7 : R3.length = m7 := q7.1
      have h67 : ((m6 : Int) != (m7 : Int)) = false := by simp; omega
      have ee : ∀ W : World, (binOp .neq 24 (.agg #[.int .i64 f.id, .int .i64 f.time, .string f.root]) (.agg #[.int .i64 f.id, .int .i64 f.time, .string f.root])).run Try.prog W = .ok (.bool false) W := fun W => by rw [eqSnap, Snap.same_iff.2 rfl]; rfl
      clear x0 x1 x2 y0 y1 y2
      replace e6 := Lib.hid e6
      replace e7 := Lib.hid e7
      go_wp2_with fail
      refine (ref21_Same A1 A n1 n c1 c l l wb (hinx.to hbxb) (hlx.to hbxb)).mono ?_
      rw [hsame.out]
      rintro e wc ⟨rfl, hbc⟩
      have hzc := hbc.size
      have hbxc : Below wx.heap.size wx wc := hbxb.trans (hbc.mono (by omega))
      have q6c := q6.to hbxc
      have q7c := q7.to hbxc
      have g2c := Lib.hid (g2.out.below hbxc)
      have g4c := Lib.hid (g4.out.below hbxc)
      have hb1c : Below w1.heap.size w1 wc := hb1x.trans (hbxc.mono (by omega))
      clear u0 u1 u2 t0 t1 t2 ee q2 q3 q4 q5 q6 q7
      go_wp2_with fail
      go_loopw [25] (fun i wr => ∃ k : Nat, k ≤ m6 ∧ i = .int .i64 k ∧ Below wc.heap.size wc wr) (fun i _ => m6 - (intOf i).toNat)
      case atStart => exact ⟨0, Nat.zero_le _, rfl, Below.refl _ _⟩
      case round =>
        obtain ⟨k, hk, rfl, hbk⟩ := hrel
        have hzk := hbk.size
        by_cases hlt2 : k < m6
        · obtain ⟨b2, o2, x, rfl, hb2', hx, p0⟩ := (q6c.to hbk).str hlt2
          obtain ⟨b3, o3, x', rfl, hb3', hx', p1⟩ := (q7c.to hbk).str (i := k) (by have := e6.out; have := e7.out; omega)
          rw [hx] at hx'
          injection hx' with hx'
          subst hx'
          have hq : (x.toList == x.toList) = true := by simp
          have hk7 : (k : Int) < (m7 : Int) := by have := e6.out; have := e7.out; omega
          clear hx
          go_wp2_with fail
          go_quiet (fail)
          go_wp2_with fail
          go_roundw
          case rel => exact ⟨k + 1, by omega, by go_num, (by repeat (first | exact Below.refl _ _ | assumption | refine Below.drew ?_ | refine below_drewN ?_ _ | refine Below.alloc ?_ (by first | omega | (simp; try omega)) _ | refine Below.setCell ?_ (by first | omega | (simp; try omega)) _ | (refine Below.trans ?_ (Below.mono (by assumption) (by first | omega | (simp; try omega))))))⟩
          case measure => simp [intOf]; omega
        · have hb1k : Below w1.heap.size w1 wr := hb1c.trans (hbk.mono (by omega))
          have g2k := g2c.out.below hbk
          have g4k := g4c.out.below hbk
          go_wp2_with fail
          go_loopw [26] (fun i wr => ∃ k : Nat, k ≤ m2 ∧ i = .int .i64 k ∧ Below w1.heap.size w1 wr ∧ Writ 3 wr w1.heap.size A2 m2 ∧ Writ 3 wr w3.heap.size A4 m4) (fun i _ => m2 - (intOf i).toNat)
          case atStart => exact ⟨0, Nat.zero_le _, rfl, hb1k, g2k, g4k⟩
          case round =>
            obtain ⟨p, hp, rfl, hbp, v2, v4⟩ := hrel
            by_cases hlt3 : p < m2
            · obtain ⟨b2, o2, u, rfl, hb2', hu, hfu⟩ := v2.at_ hlt3 (by decide)
              replace v2 := Lib.hid v2
              replace v4 := Lib.hid v4
              have hzp := hbp.size
              go_wp2_with fail
              go_roundw
              case rel => exact ⟨p + 1, by omega, by go_num, (by repeat (first | exact Below.refl _ _ | assumption | refine Below.drew ?_ | refine below_drewN ?_ _ | refine Below.alloc ?_ (by first | omega | (simp; try omega)) _ | refine Below.setCell ?_ (by first | omega | (simp; try omega)) _ | (refine Below.trans ?_ (Below.mono (by assumption) (by first | omega | (simp; try omega)))))), v2.out.setCell _ _, v4.out.setCell _ _⟩
              case measure => simp [intOf]; omega
            · go_wp2_with fail
              go_loopw [27] (fun i wr => ∃ k : Nat, k ≤ m4 ∧ i = .int .i64 k ∧ Below w1.heap.size w1 wr ∧ Writ 3 wr w3.heap.size A4 m4) (fun i _ => m4 - (intOf i).toNat)
              case atStart => exact ⟨0, Nat.zero_le _, rfl, hbp, v4⟩
              case round =>
                obtain ⟨q, hq, rfl, hbq, v4q⟩ := hrel
                by_cases hlt4 : q < m4
                · obtain ⟨b2, o2, u, rfl, hb2', hu, hfu⟩ := v4q.at_ hlt4 (by decide)
                  replace v4q := Lib.hid v4q
                  have hzq := hbq.size
                  go_wp2_with fail
                  go_roundw
                  case rel => exact ⟨q + 1, by omega, by go_num, (by repeat (first | exact Below.refl _ _ | assumption | refine Below.drew ?_ | refine below_drewN ?_ _ | refine Below.alloc ?_ (by first | omega | (simp; try omega)) _ | refine Below.setCell ?_ (by first | omega | (simp; try omega)) _ | (refine Below.trans ?_ (Below.mono (by assumption) (by first | omega | (simp; try omega)))))), v4q.out.setCell _ _⟩
                  case measure => simp [intOf]; omega
                · go_wp2_with fail
                  go_roundw
                  case rel => exact ⟨r + 1, by omega, by go_num, hbq⟩
                  case measure => simp [intOf]; omega
    · have hmay : Hid (∀ W : World, Below wo.heap.size wo W → Calls Try.prog 16 #[.slice A n c] W fun e w' => e = .returned (.bool (mayL l)) ∧ Below W.heap.size W w') := fun W hW => snap_May A n c l W ((hl1.to hbr).to hW)
      have hmay' : Hid (∀ W : World, Below wo.heap.size wo W → Calls Try.prog 31 #[.slice A n c] W fun e w' => e = .returned (.bool (mayL l)) ∧ Below W.heap.size W w') := fun W hW => ref21_May A n c l W ((hl1.to hbr).to hW)
      have hone : Hid (∀ W : World, Calls Try.prog 17 #[.agg #[.int .i64 s.id, .int .i64 s.time, .string s.root]] W fun e w' => e = .returned (.bool (mayOne s)) ∧ Below W.heap.size W w') := fun W => snap_MayOne s W
      have hone' : Hid (∀ W : World, Calls Try.prog 32 #[.agg #[.int .i64 s.id, .int .i64 s.time, .string s.root]] W fun e w' => e = .returned (.bool (mayOne s)) ∧ Below W.heap.size W w') := fun W => ref21_MayOne s W
      have hsm : Hid (∀ W : World, Below wo.heap.size wo W → Calls Try.prog 19 #[.slice A n c, .slice A1 n1 c1] W fun e w' => e = .returned (.bool true) ∧ Below W.heap.size W w') := fun W hW => by
        rw [← hsame.out l]
        exact snap_Same A A1 n n1 c c1 l l W ((hl1.to hbr).to hW) ((hr1.to hbr).to hW)
      obtain ⟨j0, j1, j2⟩ := hbox.out wo hbr
      have hlto : w.heap.size < wo.heap.size := by omega
      obtain ⟨mb, hmb⟩ : ∃ x, x = mayL l := ⟨_, rfl⟩
      obtain ⟨ob, hob⟩ : ∃ x, x = mayOne s := ⟨_, rfl⟩
      rw [← hmb] at hmay hmay'
      rw [← hob] at hone hone'
      have hmm : (mb == mb) = true := by simp
      have hoo : (ob == ob) = true := by simp
      clear hmb hob
      have hw : Below w.heap.size w wo := hw1.trans (hbr.mono (by omega))
      go_wp2_with fail
      (refine wp_region_ext (wo.heap.size) (by kernel_rfl) (by kernel_rfl) ?_
       repeat (go_big_quiet_step ((first
              | (go_at_call 16; refine Calls.ext (Nat.le_refl _) (hmay.out _ (Ext.below _)))
              | (go_at_call 31; refine Calls.ext (Nat.le_refl _) (hmay'.out _ (Ext.below _)))
              | (go_at_call 17; refine Calls.ext (Nat.le_refl _) (hone.out _))
              | (go_at_call 32; refine Calls.ext (Nat.le_refl _) (hone'.out _))
              | (go_at_call 19; refine Calls.ext (Nat.le_refl _) (hsm.out _ (Ext.below _))))))
       refine wpQuiet_nil ?_
       intro wz hw'
       have hbwz := Ext.of hw'
       clear hw'
       obtain ⟨hcwz, hfwz⟩ := bcell hbwz; (try simp only [World.size_drew, World.cell?_drew, World.frozen?_drew, World.heap_drewN, World.cell?_drewN, World.frozen?_drewN] at hcwz hfwz); have hzwz := hbwz.size; (try simp at hzwz); (try have hlwz := (by omega : w.heap.size < wz.heap.size)); (try have hmwz := (by omega : w.heap.size + 1 < wz.heap.size)); (try have hnwz := (by omega : w.heap.size + 1 + 1 < wz.heap.size)))
      go_wp2_with fail
      go_ret
      exact ⟨rfl, hw.trans (hbwz.mono (by omega))⟩

set_option maxRecDepth 100000 in
set_option maxRecDepth 100000 in
theorem snapDoes_lifted (os : Os) (started : os.Started) (H : Type) (enc : TypeId × Value → H) :
    ReturnsInHanded {} Try.checked os 7 .any (Rows.snapDoesSpec.pre6 enc Try.prog Try.f7 Rows.snapDoesRow.domain false) (Rows.snapDoesSpec.post enc Try.prog Try.f7 false true false false) := by
  refine law_lifted started (by kernel_rfl) Try.func7 rfl rfl ?_ (by kernel_rfl)
    (ChangeSpec.witness6 (enc := enc) (C := Try.checked) false ⟨#[], #[.slice none 0 0, .agg #[.int .i64 0, .int .i64 0, .string ⟨#[]⟩], .int .i64 0], []⟩ 8 (by kernel_rfl) (by kernel_rfl) (by kernel_rfl) (by kernel_rfl)) ?_
  · intro ds hd
    match ds, hd with
    | [d1, d2, d3], _ => exact ⟨rfl, rfl, rfl⟩
  · intro W base args ds ps hval hA hlt
    rw [Try.params7] at hA hval
    obtain ⟨v0, v1, v2, d0, d1, d2, p0, p1, p2, rfl, rfl, rfl, h0, h1, h2⟩ := trodAll_three hA
    obtain ⟨A, n, c, l, rfl, hl, _⟩ := open_snaps (hval 0 22 v0 rfl rfl) h0
    obtain ⟨s, rfl, _⟩ := open_snap (hval 1 24 v1 rfl rfl) h1
    obtain ⟨id, rfl, _⟩ := open_int Try.underlying3 (hval 2 3 v2 rfl rfl) h2
    exact snapDoes_walk A n c l s id W hl

theorem snapDoes_holds : Rows.SnapDoesSaid :=
  OpenClaim.holds_of_wide 7 Try.f7 rfl rfl rfl rfl rfl rfl rfl ⟨rfl, rfl, rfl, rfl, rfl⟩ rfl rfl rfl rfl rfl (by kernel_rfl) Try.func7 (by kernel_rfl)
    (of_decide_eq_true (by kernel_rfl)) (by unfold Func.isWrapper; rw [if_neg (of_decide_eq_false (by kernel_rfl))]; exact ⟨rfl, rfl⟩)
    (fun os started H enc _ => snapDoes_lifted os started H enc)
#print axioms snapDoes_holds
end Go.Proofs.Ytbhbkllclookhaa
