/-
  For every list of snapshots, every snapshot and every two IDs SnapStays returns true: what Add and Drop tell may be; Find finds what was added, and not what was dropped, all others as they were; Drop of what was added last is the list; in whatever row two are dropped, the same is left. No condition.
-/
import Derived.Test.YtbhbkllclookhaaWorks
import Derived.Test.YtbhbkllclookhaaSnapG
import Derived.Test.YtbhbkllclookhaaLaw
namespace Go.Proofs.Ytbhbkllclookhaa
open Go.ChangeShapes Go.WideShapes Go.ChangeAt Go.RowKit
attribute [local go_sem ↓] Go.wp_at_zero Go.wp_at_succ

set_option maxHeartbeats 8000000 in
set_option maxRecDepth 100000 in
theorem snapStays_walk (A : Option Addr) (n c : Nat) (l : List Snap) (s : Snap) (a b : Int) (w : World) (h : SnapsAt w w.heap.size A n l) :
    Calls Try.prog 4 #[.slice A n c, s.agg, .int .i64 a, .int .i64 b] w fun e w' => e = .returned (.bool true) ∧ Below w.heap.size w w' := by
  unfold Snap.agg
  have hn := h.2.1
  have hl := Lib.hid h.1
  cases hm : mayL l
  · replace hm := Lib.hid hm
    go_enter Try.func4, Try.ntmps4
    go_wp2_with fail
    refine (works_any _).mono ?_
    rintro e w1 ⟨rfl, hbw1⟩
    have hz1 := hbw1.size
    go_wp2_with fail
    refine (snap_May A n c l _ (h.to (by repeat (first | exact Below.refl _ _ | assumption | refine Below.drew ?_ | refine below_drewN ?_ _ | refine Below.alloc ?_ (by first | omega | (simp; try omega)) _ | refine Below.setCell ?_ (by first | omega | (simp; try omega)) _ | (refine Below.trans ?_ (Below.mono (by assumption) (by first | omega | (simp; try omega)))))))).mono ?_
    rw [hm.out]
    rintro e w2 ⟨rfl, hbw2⟩
    have hz2 := hbw2.size
    simp at hz1
    go_wp2_with fail
    refine (works_any _).mono ?_
    rintro e w3 ⟨rfl, hbw3⟩
    go_wp2_with fail
    go_ret
    exact ⟨rfl, (by repeat (first | exact Below.refl _ _ | assumption | refine Below.drew ?_ | refine below_drewN ?_ _ | refine Below.alloc ?_ (by first | omega | (simp; try omega)) _ | refine Below.setCell ?_ (by first | omega | (simp; try omega)) _ | (refine Below.trans ?_ (Below.mono (by assumption) (by first | omega | (simp; try omega))))))⟩
  · have hn32 : n ≤ 32 := by have := hl.out; simp [mayL] at hm; omega
    replace hm := Lib.hid hm
    go_enter Try.func4, Try.ntmps4
    go_wp2_with fail
    refine (works_any _).mono ?_
    rintro e w0 ⟨rfl, hbw0⟩
    have hz0 := hbw0.size
    obtain ⟨hcw0, _⟩ := bcell hbw0
    simp at hz0
    have k0 : w0.cell? ⟨w.heap.size, 0, none⟩ = some (.int .i64 s.id) := by go_simp
    have k1 : w0.cell? ⟨w.heap.size, 1, none⟩ = some (.int .i64 s.time) := by go_simp
    have k2 : w0.cell? ⟨w.heap.size, 2, none⟩ = some (.string s.root) := by go_simp
    have hlt0 : w.heap.size < w0.heap.size := by omega
    have hbox : Hid (∀ W : World, Below w0.heap.size w0 W → W.cell? ⟨w.heap.size, 0, none⟩ = some (.int .i64 s.id) ∧ W.cell? ⟨w.heap.size, 1, none⟩ = some (.int .i64 s.time) ∧ W.cell? ⟨w.heap.size, 2, none⟩ = some (.string s.root)) :=
      fun W hb => ⟨(hb.cell (p := ⟨_, _, none⟩) hlt0).trans k0, (hb.cell (p := ⟨_, _, none⟩) hlt0).trans k1, (hb.cell (p := ⟨_, _, none⟩) hlt0).trans k2⟩
    clear hcw0 k0 k1 k2
    have hb0 : Below w.heap.size w w0 := (by repeat (first | exact Below.refl _ _ | assumption | refine Below.drew ?_ | refine below_drewN ?_ _ | refine Below.alloc ?_ (by first | omega | (simp; try omega)) _ | refine Below.setCell ?_ (by first | omega | (simp; try omega)) _ | (refine Below.trans ?_ (Below.mono (by assumption) (by first | omega | (simp; try omega))))))
    have hl0 := h.to hb0
    go_wp2_with fail
    refine (snap_May A n c l _ hl0).mono ?_
    rw [hm.out]
    rintro e w1 ⟨rfl, hbw1⟩
    have hz1 := hbw1.size
    obtain ⟨j0, j1, j2⟩ := hbox.out w1 hbw1
    obtain ⟨wt, hwt⟩ : ∃ x, x = wantMore l s := ⟨_, rfl⟩
    obtain ⟨R, z, hadd, hRz⟩ : ∃ R z, addRes l s = (R, z) ∧ ((wt = true ∧ R = l ++ [s] ∧ z = 0) ∨ (wt = false ∧ z ≠ 0)) := by
      cases wt
      · obtain ⟨z, h1, h2⟩ := add_less hwt.symm
        exact ⟨_, _, h1, .inr ⟨rfl, h2⟩⟩
      · exact ⟨_, _, add_more hwt.symm, .inl ⟨rfl, rfl, rfl⟩⟩
    replace hadd := Lib.hid hadd
    replace hwt := Lib.hid hwt
    replace hRz := Lib.hid hRz
    go_wp2_with fail
    refine (snap_Add A n c l s _ (hl0.to hbw1)).mono ?_
    rw [hadd.out]
    rintro e w5 ⟨v5, rfl, hown5, hbw5⟩
    have hz5 := hbw5.size
    have hb5 : Below w0.heap.size w0 w5 := (by repeat (first | exact Below.refl _ _ | assumption | refine Below.drew ?_ | refine below_drewN ?_ _ | refine Below.alloc ?_ (by first | omega | (simp; try omega)) _ | refine Below.setCell ?_ (by first | omega | (simp; try omega)) _ | (refine Below.trans ?_ (Below.mono (by assumption) (by first | omega | (simp; try omega))))))
    have hbz5 : Below w.heap.size w w5 := hb0.trans (hb5.mono (by omega))
    obtain ⟨A5, n5, c5, rfl, hr5⟩ := hown5.view Snap.len
    clear hown5 j0 j1 j2
    obtain ⟨j0, j1, j2⟩ := hbox.out w5 hb5
    have hl5 := h.to hbz5
    go_upto_if 44 with fail
    go_cut [11, 12, 13, 14, 15, 16, 17] (fun _ _ _ _ _ _ _ wc => Below w.heap.size w wc)
    case first =>
      cases wt
      · have hz0 : (z == 0) = false := by rcases hRz.out with ⟨h, _⟩ | ⟨_, h⟩; cases h; simpa using h
        go_wp2_with fail
        go_meet
        exact hbz5
      · obtain ⟨rfl, rfl⟩ : R = l ++ [s] ∧ z = 0 := by rcases hRz.out with ⟨_, h⟩ | ⟨h, _⟩; exact h; cases h
        go_wp2_with fail
        refine (snap_Find' A5 n5 c5 (l ++ [s]) w5 hr5 s.id).mono ?_
        rw [find_last hwt.out.symm]
        simp only [Snap.agg]
        rintro e w6 ⟨rfl, hbw6⟩
        have hz6 := hbw6.size
        have hb6 : Below w0.heap.size w0 w6 := (by repeat (first | exact Below.refl _ _ | assumption | refine Below.drew ?_ | refine below_drewN ?_ _ | refine Below.alloc ?_ (by first | omega | (simp; try omega)) _ | refine Below.setCell ?_ (by first | omega | (simp; try omega)) _ | (refine Below.trans ?_ (Below.mono (by assumption) (by first | omega | (simp; try omega))))))
        have hlt6 : w.heap.size < w6.heap.size := by omega
        clear j0 j1 j2
        obtain ⟨j0, j1, j2⟩ := hbox.out w6 hb6
        go_wp2_with fail
        refine (snap_Drop A5 n5 c5 (l ++ [s]) _ (hr5.to (by repeat (first | exact Below.refl _ _ | assumption | refine Below.drew ?_ | refine below_drewN ?_ _ | refine Below.alloc ?_ (by first | omega | (simp; try omega)) _ | refine Below.setCell ?_ (by first | omega | (simp; try omega)) _ | (refine Below.trans ?_ (Below.mono (by assumption) (by first | omega | (simp; try omega))))))) s.id).mono ?_
        rw [drop_last hwt.out.symm]
        rintro e w7 ⟨A7, n7, c7, rfl, hr7, _, hbw7⟩
        have hz7 := hbw7.size
        simp at hz7
        clear j0 j1 j2
        have hb67 : Below w6.heap.size w6 w7 := (by repeat (first | exact Below.refl _ _ | assumption | refine Below.drew ?_ | refine below_drewN ?_ _ | refine Below.alloc ?_ (by first | omega | (simp; try omega)) _ | refine Below.setCell ?_ (by first | omega | (simp; try omega)) _ | (refine Below.trans ?_ (Below.mono (by assumption) (by first | omega | (simp; try omega))))))
        have hb7 : Below w0.heap.size w0 w7 := (by repeat (first | exact Below.refl _ _ | assumption | refine Below.drew ?_ | refine below_drewN ?_ _ | refine Below.alloc ?_ (by first | omega | (simp; try omega)) _ | refine Below.setCell ?_ (by first | omega | (simp; try omega)) _ | (refine Below.trans ?_ (Below.mono (by assumption) (by first | omega | (simp; try omega))))))
        have i0 : w7.cell? ⟨w6.heap.size, 0, none⟩ = some (.int .i64 s.id) := by rw [hbw7.cell (p := ⟨_, _, none⟩) (by simp)]; go_simp
        have i1 : w7.cell? ⟨w6.heap.size, 1, none⟩ = some (.int .i64 s.time) := by rw [hbw7.cell (p := ⟨_, _, none⟩) (by simp)]; go_simp
        have i2 : w7.cell? ⟨w6.heap.size, 2, none⟩ = some (.string s.root) := by rw [hbw7.cell (p := ⟨_, _, none⟩) (by simp)]; go_simp
        have hr57 : SnapsAt w7 w7.heap.size A5 n5 (l ++ [s]) := (hr5.to hbw6).to hb67
        have hl7 := hl0.to hb7
        go_wp2_with fail
        refine (snap_May A5 n5 c5 (l ++ [s]) w7 hr57).mono ?_
        rw [(wantMore_may hwt.out.symm).1]
        rintro e w8 ⟨rfl, hbw8⟩
        have hz8 := hbw8.size
        have hb8 : Below w0.heap.size w0 w8 := (by repeat (first | exact Below.refl _ _ | assumption | refine Below.drew ?_ | refine below_drewN ?_ _ | refine Below.alloc ?_ (by first | omega | (simp; try omega)) _ | refine Below.setCell ?_ (by first | omega | (simp; try omega)) _ | (refine Below.trans ?_ (Below.mono (by assumption) (by first | omega | (simp; try omega))))))
        obtain ⟨j0, j1, j2⟩ := hbox.out w8 hb8
        have i0' := (hbw8.cell (p := ⟨w6.heap.size, 0, none⟩) (show w6.heap.size < w7.heap.size by omega)).trans i0
        have i1' := (hbw8.cell (p := ⟨w6.heap.size, 1, none⟩) (show w6.heap.size < w7.heap.size by omega)).trans i1
        have i2' := (hbw8.cell (p := ⟨w6.heap.size, 2, none⟩) (show w6.heap.size < w7.heap.size by omega)).trans i2
        have ee : ∀ W : World, (binOp .neq 24 (.agg #[.int .i64 s.id, .int .i64 s.time, .string s.root]) (.agg #[.int .i64 s.id, .int .i64 s.time, .string s.root])).run Try.prog W = .ok (.bool false) W := fun W => by rw [eqSnap, Snap.same_iff.2 rfl]; rfl
        clear i0 i1 i2
        go_wp2_with fail
        refine (snap_Same A7 A n7 n c7 c l l w8 (hr7.to hbw8) (hl7.to hbw8)).mono ?_
        rw [show sameL l l = true by simp [sameL]]
        rintro e w9 ⟨rfl, hbw9⟩
        have hz9 := hbw9.size
        clear i0' i1' i2' j0 j1 j2 ee
        have hb9 : Below w0.heap.size w0 w9 := (by repeat (first | exact Below.refl _ _ | assumption | refine Below.drew ?_ | refine below_drewN ?_ _ | refine Below.alloc ?_ (by first | omega | (simp; try omega)) _ | refine Below.setCell ?_ (by first | omega | (simp; try omega)) _ | (refine Below.trans ?_ (Below.mono (by assumption) (by first | omega | (simp; try omega))))))
        have hr59 := (hr57.to hbw8).to hbw9
        have hl9 := (hl7.to hbw8).to hbw9
        have hwb : Below w.heap.size w w9 := hb0.trans (hb9.mono (by omega))
        go_wp2_with fail
        go_loopw [15] (fun i wr => ∃ k : Nat, k ≤ n ∧ i = .int .i64 k ∧ Below w9.heap.size w9 wr) (fun i _ => n - (intOf i).toNat)
        case atStart => exact ⟨0, Nat.zero_le _, rfl, Below.refl _ _⟩
        case round =>
          obtain ⟨k, hk, rfl, hbr⟩ := hrel
          have hzr := hbr.size
          by_cases hlt : k < n
          · have hlr := hl9.to hbr
            obtain ⟨b1, off, t, rfl, hb1, hx, q0, q1, q2⟩ := hlr.snap hlt
            have hrr := hr59.to hbr
            obtain ⟨b2, hb2⟩ : ∃ x, x = wr := ⟨_, rfl⟩
            go_wp2_with fail
            refine (snap_Find' A5 n5 c5 (l ++ [s]) wr hrr t.id).mono ?_
            rw [find_more hwt.out.symm hx]
            simp only [Snap.agg]
            rintro e wf ⟨rfl, hbf⟩
            have hzf := hbf.size
            have o0 := (hbf.cell (p := ⟨b1, off + k * 3, none⟩) hb1).trans q0
            have o1 := (hbf.cell (p := ⟨b1, off + k * 3 + 1, none⟩) hb1).trans q1
            have o2 := (hbf.cell (p := ⟨b1, off + k * 3 + 2, none⟩) hb1).trans q2
            have hb1f : b1 < wf.heap.size := by omega
            have ee : ∀ W : World, (binOp .neq 24 (.agg #[.int .i64 t.id, .int .i64 t.time, .string t.root]) (.agg #[.int .i64 t.id, .int .i64 t.time, .string t.root])).run Try.prog W = .ok (.bool false) W := fun W => by rw [eqSnap, Snap.same_iff.2 rfl]; rfl
            clear q0 q1 q2 hx hb2
            go_wp2_with fail
            go_quiet (fail)
            go_wp2_with fail
            go_roundw
            case rel => exact ⟨k + 1, by omega, by go_num, (by repeat (first | exact Below.refl _ _ | assumption | refine Below.drew ?_ | refine below_drewN ?_ _ | refine Below.alloc ?_ (by first | omega | (simp; try omega)) _ | refine Below.setCell ?_ (by first | omega | (simp; try omega)) _ | (refine Below.trans ?_ (Below.mono (by assumption) (by first | omega | (simp; try omega))))))⟩
            case measure => simp [intOf]; omega
          · go_wp2_with fail
            go_meet
            exact hwb.trans (hbr.mono (by omega))
    case rest =>
      have hzc := hcut.size
      have hlc := h.to hcut
      by_cases h0 : n = 0
      · have hg0 : ((n : Int) == 0) = true := by simp; omega
        replace h0 := Lib.hid h0
        go_wp2_with fail
        go_ret
        exact ⟨rfl, (by repeat (first | exact Below.refl _ _ | assumption | refine Below.drew ?_ | refine below_drewN ?_ _ | refine Below.alloc ?_ (by first | omega | (simp; try omega)) _ | refine Below.setCell ?_ (by first | omega | (simp; try omega)) _ | (refine Below.trans ?_ (Below.mono (by assumption) (by first | omega | (simp; try omega))))))⟩
      have hg0 : ((n : Int) == 0) = false := by simp; omega
      by_cases hab : a = b
      · have hg1 : (a == b) = true := by simpa using hab
        replace hab := Lib.hid hab
        go_wp2_with fail
        go_ret
        exact ⟨rfl, (by repeat (first | exact Below.refl _ _ | assumption | refine Below.drew ?_ | refine below_drewN ?_ _ | refine Below.alloc ?_ (by first | omega | (simp; try omega)) _ | refine Below.setCell ?_ (by first | omega | (simp; try omega)) _ | (refine Below.trans ?_ (Below.mono (by assumption) (by first | omega | (simp; try omega))))))⟩
      have hg1 : (a == b) = false := by simpa using hab
      obtain ⟨qa, hqa, ea⟩ := umod_lt a n (by omega) hn
      obtain ⟨qb, hqb, eb⟩ := umod_lt b n (by omega) hn
      obtain ⟨ta, hta⟩ := getElem_some (l := l) (i := qa) (by have := hl.out; omega)
      obtain ⟨tb, htb⟩ := getElem_some (l := l) (i := qb) (by have := hl.out; omega)
      obtain ⟨b1, off, rfl, hb1⟩ := hlc.addr (i := 0) (by omega)
      obtain ⟨p0, _, _⟩ := hlc.snapEx hta
      obtain ⟨q0, _, _⟩ := hlc.snapEx htb
      have hqa0 : (0 : Int) ≤ (qa : Int) := by omega
      have hqa1 : (qa : Int) < (n : Int) := by omega
      have hqb0 : (0 : Int) ≤ (qb : Int) := by omega
      have hqb1 : (qb : Int) < (n : Int) := by omega
      replace hta := Lib.hid hta
      replace htb := Lib.hid htb
      replace hab := Lib.hid hab
      go_wp2_with fail
      refine (snap_Drop _ n c l wc hlc ta.id).mono ?_
      rw [drop_there hm.out hta.out]
      rintro e w1 ⟨A1, n1, c1, rfl, hr1, _, hbw1⟩
      have hz1 := hbw1.size
      have hn1 : Hid (n1 + 1 = n) := by have h1 := hl.out; have h2 : (without l ta.id).length = n1 := hr1.1; have h3 := without_len hm.out hta.out; unfold Hid; omega
      clear p0 q0 ea eb
      go_wp2_with fail
      refine (snap_Find' A1 n1 c1 (without l ta.id) w1 hr1 ta.id).mono ?_
      rw [find_without ta.id hm.out]
      simp only [Snap.agg, Snap.zero]
      rintro e w2 ⟨rfl, hbw2⟩
      have hz2 := hbw2.size
      have hbb2 : Below w.heap.size w w2 := (by repeat (first | exact Below.refl _ _ | assumption | refine Below.drew ?_ | refine below_drewN ?_ _ | refine Below.alloc ?_ (by first | omega | (simp; try omega)) _ | refine Below.setCell ?_ (by first | omega | (simp; try omega)) _ | (refine Below.trans ?_ (Below.mono (by assumption) (by first | omega | (simp; try omega))))))
      go_wp2_with fail
      refine (snap_May A1 n1 c1 (without l ta.id) _ ((hr1.to hbw2).to (by repeat (first | exact Below.refl _ _ | assumption | refine Below.drew ?_ | refine below_drewN ?_ _ | refine Below.alloc ?_ (by first | omega | (simp; try omega)) _ | refine Below.setCell ?_ (by first | omega | (simp; try omega)) _ | (refine Below.trans ?_ (Below.mono (by assumption) (by first | omega | (simp; try omega)))))))).mono ?_
      rw [without_may ta.id hm.out]
      rintro e w3 ⟨rfl, hbw3⟩
      have hz3 := hbw3.size
      simp at hz3
      have hbb23 : Below w2.heap.size w2 w3 := (by repeat (first | exact Below.refl _ _ | assumption | refine Below.drew ?_ | refine below_drewN ?_ _ | refine Below.alloc ?_ (by first | omega | (simp; try omega)) _ | refine Below.setCell ?_ (by first | omega | (simp; try omega)) _ | (refine Below.trans ?_ (Below.mono (by assumption) (by first | omega | (simp; try omega))))))
      have hlen : ((n1 : Int) != (n : Int) - 1) = false := by have := hn1.out; simp; omega
      have hbb3 : Below w.heap.size w w3 := hbb2.trans (hbb23.mono (by omega))
      have hrb3 := (hr1.to hbw2).to hbb23
      have hlb3 := h.to hbb3
      by_cases hik : ta.id = tb.id
      · have hg2 : (ta.id == tb.id) = true := by simpa using hik
        replace hik := Lib.hid hik
        go_wp2_with fail
        go_ret
        exact ⟨rfl, hbb3⟩
      have hg2 : (ta.id == tb.id) = false := by simpa using hik
      replace hik := Lib.hid hik
      go_wp2_with fail
      refine (snap_Drop A1 n1 c1 (without l ta.id) w3 hrb3 tb.id).mono ?_
      rw [drop_two hm.out htb.out hik.out]
      rintro e w4 ⟨A4, n4, c4, rfl, hr4, _, hbw4⟩
      have hz4 := hbw4.size
      go_wp2_with fail
      refine (snap_Drop _ n c l w4 (hlb3.to hbw4) tb.id).mono ?_
      rw [drop_there hm.out htb.out]
      rintro e w5 ⟨A5, n5, c5, rfl, hr5, _, hbw5⟩
      have hz5 := hbw5.size
      go_wp2_with fail
      refine (snap_Drop A5 n5 c5 (without l tb.id) w5 hr5 ta.id).mono ?_
      rw [drop_two hm.out hta.out (fun e => hik.out e.symm)]
      rintro e w6 ⟨A6, n6, c6, rfl, hr6, _, hbw6⟩
      have hz6 := hbw6.size
      go_wp2_with fail
      refine (snap_Same A4 A6 n4 n6 c4 c6 _ _ w6 ((hr4.to hbw5).to hbw6) hr6).mono ?_
      rw [without_swap l tb.id ta.id, show sameL (without (without l ta.id) tb.id) (without (without l ta.id) tb.id) = true by simp [sameL]]
      rintro e w7 ⟨rfl, hbw7⟩
      go_wp2_with fail
      go_ret
      exact ⟨rfl, (by repeat (first | exact Below.refl _ _ | assumption | refine Below.drew ?_ | refine below_drewN ?_ _ | refine Below.alloc ?_ (by first | omega | (simp; try omega)) _ | refine Below.setCell ?_ (by first | omega | (simp; try omega)) _ | (refine Below.trans ?_ (Below.mono (by assumption) (by first | omega | (simp; try omega))))))⟩

set_option maxRecDepth 100000 in
set_option maxRecDepth 100000 in
theorem snapStays_lifted (os : Os) (started : os.Started) (H : Type) (enc : TypeId × Value → H) :
    ReturnsInHanded {} Try.checked os 4 .any (Rows.snapStaysSpec.pre6 enc Try.prog Try.f4 Rows.snapStaysRow.domain false) (Rows.snapStaysSpec.post enc Try.prog Try.f4 false true false false) := by
  refine law_lifted started (by kernel_rfl) Try.func4 rfl rfl ?_ (by kernel_rfl)
    (ChangeSpec.witness6 (enc := enc) (C := Try.checked) false ⟨#[], #[.slice none 0 0, .agg #[.int .i64 0, .int .i64 0, .string ⟨#[]⟩], .int .i64 0, .int .i64 0], []⟩ 8 (by kernel_rfl) (by kernel_rfl) (by kernel_rfl) (by kernel_rfl)) ?_
  · intro ds hd
    match ds, hd with
    | [d1, d2, d3, d4], _ => exact ⟨rfl, rfl, rfl⟩
  · intro W base args ds ps hval hA hlt
    rw [Try.params4] at hA hval
    obtain ⟨v0, v1, v2, v3, d0, d1, d2, d3, p0, p1, p2, p3, rfl, rfl, rfl, h0, h1, h2, h3⟩ := trodAll_four hA
    obtain ⟨A, n, c, l, rfl, hl, _⟩ := open_snaps (hval 0 22 v0 rfl rfl) h0
    obtain ⟨s, rfl, _⟩ := open_snap (hval 1 24 v1 rfl rfl) h1
    obtain ⟨a, rfl, _⟩ := open_int Try.underlying3 (hval 2 3 v2 rfl rfl) h2
    obtain ⟨b, rfl, _⟩ := open_int Try.underlying3 (hval 3 3 v3 rfl rfl) h3
    exact snapStays_walk A n c l s a b W hl

theorem snapStays_holds : Rows.SnapStaysSaid :=
  OpenClaim.holds_of_wide 4 Try.f4 rfl rfl rfl rfl rfl rfl rfl ⟨rfl, rfl, rfl, rfl, rfl⟩ rfl rfl rfl rfl rfl (by kernel_rfl) Try.func4 (by kernel_rfl)
    (of_decide_eq_true (by kernel_rfl)) (by unfold Func.isWrapper; rw [if_neg (of_decide_eq_false (by kernel_rfl))]; exact ⟨rfl, rfl⟩)
    (fun os started H enc _ => snapStays_lifted os started H enc)
#print axioms snapStays_holds
end Go.Proofs.Ytbhbkllclookhaa
