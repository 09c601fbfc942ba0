/-
  The walk of RootBack.
-/
import Derived.Test.YthbmbbbojpdlaaaRootCutW
import Derived.Deep.DeepCutAuto
import Derived.Test.YthbmbbbojpdlaaaLess
import Derived.Test.YthbmbbbojpdlaaaHeldB
namespace Go.Proofs.Ythbmbbbojpdlaaa
open Go.RowKit
attribute [local go_sem ↓] Go.wp_at_zero Go.wp_at_succ

abbrev sb (k nn next : Int) (A1 : Option Addr) (n1 c1 : Nat) (A2 : Option Addr) (n2 c2 : Nat) (A3 : Option Addr) (n3 c3 : Nat) (w wr : World) : Prop := Below (w.heap.size + 1) (w.alloc (stBox k nn next A1 n1 c1 A2 n2 c2 A3 n3 c3)) wr

theorem ne_ranges {v v' : Value} {N : Nat} (h : ∀ i, v.ownBlock = some i → i < N) (h' : ∀ i, v'.ownBlock = some i → N ≤ i) : v.ownBlock = none ∨ v.ownBlock ≠ v'.ownBlock := by
  cases hv : v.ownBlock with
  | none => exact .inl rfl
  | some i =>
    refine .inr fun e => ?_
    have h1 := h i hv
    have h2 := h' i e.symm
    omega

set_option maxHeartbeats 1000000 in
set_option maxRecDepth 100000 in
theorem rootBack_walk (v : Rws) (s : St) (body : ByteArray) (n : Int) (w : World) (h : StAt w w.heap.size v s) (hr : Reach v) (hn : -9223372036854775808 ≤ n ∧ n ≤ 9223372036854775807) (hcap : v.n1 ≤ v.c1 ∧ v.n2 ≤ v.c2 ∧ v.n3 ≤ v.c3) :
    Calls Try.prog 6 #[v.val s, .string body, .int .i64 n] w fun e w' => e = .returned (.bool true) ∧ Below w.heap.size w w' := by
  have hL := Lib.hid (law23_large v s · hr)
  have hM := Lib.hid (fun W (hb : Below w.heap.size w W) => root_Make v s W (h.to hb))
  have hY := Lib.hid (fun W (hb : Below w.heap.size w W) => root_May v s W (h.to hb))
  have hst := Lib.hid h
  have hlg : Hid (largeB v = false → v.n2 + v.n3 ≤ 1500 ∧ v.n1 ≤ 2000) := fun h => by
    simp [largeB] at h
    omega
  clear h hr
  obtain ⟨k, nn, next, sn, cs, ps⟩ := s
  obtain ⟨A1, n1, c1, A2, n2, c2, A3, n3, c3⟩ := v
  obtain ⟨E, mb, R, hRE, hmb⟩ : ∃ E mb R, makeRes ⟨k, nn, next, sn, cs, ps⟩ = (R, E) ∧ mayState ⟨k, nn, next, sn, cs, ps⟩ = mb := ⟨_, _, _, rfl, rfl⟩
  rw [hRE] at hM
  rw [hmb] at hY
  obtain ⟨hc1, hc2, hc3⟩ := hcap
  unfold Rws.val stv at hL hM hY ⊢
  dsimp only at hL hM hY hlg hc1 hc2 hc3 ⊢
  by_cases hml : 60000 < body.size
  · have hg1 : decide ((60000 : Int) < (body.size : Int)) = true := by simp; omega
    go_enter Try.func6, Try.ntmps6
    go_wp2_with fail
    refine (law23_works _).mono ?_
    rintro e w1 ⟨rfl, hb1⟩
    have hz1 := hb1.size
    simp at hz1
    have e1 : sb k nn next A1 n1 c1 A2 n2 c2 A3 n3 c3 w w1 := hb1.mono (by simp)
    have f1 : Below w.heap.size w w1 := (Below.alloc (Below.refl _ _) (by omega) _).trans (e1.mono (by omega))
    obtain ⟨x0, x1, x2, x3, x4, x5⟩ := stBox_cells e1
    go_wp2_with fail
    refine (hL.out _).mono ?_
    cases largeB ⟨A1, n1, c1, A2, n2, c2, A3, n3, c3⟩
    all_goals
      rintro e w2 ⟨rfl, hb2⟩
      have hz2 := hb2.size
      go_wp2_with fail
      refine (law23_works _).mono ?_
      rintro e w3 ⟨rfl, hb3⟩
      go_wp2_with fail
      go_ret
      exact ⟨rfl, f1.trans ((hb2.trans (hb3.mono (by omega))).mono (by omega))⟩
  · have hg1 : decide ((60000 : Int) < (body.size : Int)) = false := by simp; omega
    go_enter Try.func6, Try.ntmps6
    go_wp2_with fail
    refine (law23_works _).mono ?_
    rintro e w1 ⟨rfl, hb1⟩
    have hz1 := hb1.size
    simp at hz1
    have e1 : sb k nn next A1 n1 c1 A2 n2 c2 A3 n3 c3 w w1 := hb1.mono (by simp)
    have f1 : Below w.heap.size w w1 := (Below.alloc (Below.refl _ _) (by omega) _).trans (e1.mono (by omega))
    obtain ⟨x0, x1, x2, x3, x4, x5⟩ := stBox_cells e1
    go_wp2_with fail
    refine (hL.out _).mono ?_
    cases hlb : largeB ⟨A1, n1, c1, A2, n2, c2, A3, n3, c3⟩
    · obtain ⟨m23, m1⟩ := hlg.out hlb
      clear hlb
      rintro e w2 ⟨rfl, hb2⟩
      have hz2 := hb2.size
      have e2 := e1.trans (hb2.mono (by omega))
      have f2 := f1.trans (hb2.mono (by omega))
      clear x0 x1 x2 x3 x4 x5
      obtain ⟨z, zx, hrb⟩ : ∃ z zx, readRes (bl body) = (z, zx) := ⟨(readRes (bl body)).1, (readRes (bl body)).2, by generalize readRes (bl body) = p; cases p; rfl⟩
      have ct := read_st (bl body) w2 (by rw [bl_len]; omega) hrb
      rw [str_bl] at ct
      replace hrb := Lib.hid hrb
      replace ct := Lib.hid ct
      go_wp2_with fail
      refine ct.out.mono ?_
      clear ct
      rintro e w3 ⟨⟨B1, m1', d1, B2, m2', d2, B3, m3', d3⟩, rfl, hst3, -, hb3⟩
      have hz3 := hb3.size
      have e3 := e2.trans (hb3.mono (by omega))
      have f3 := f2.trans (hb3.mono (by omega))
      replace hst3 := Lib.hid hst3
      go_upto_if 36 with fail
      go_cut [9, 10] (fun _ _ wc => sb k nn next A1 n1 c1 A2 n2 c2 A3 n3 c3 w wc)
      case first =>
        rcases readRes_cases (bl body) with ⟨z', hm', hs', hr'⟩ | ⟨-, hr'⟩
        · rw [hrb.out] at hr'
          obtain ⟨rfl, rfl⟩ : z = z' ∧ zx = 0 := by simpa using hr'
          have hmk : makeRes z = (body, 0) := by
            unfold makeRes
            rw [if_pos hm', hs', str_bl]
          have hX := Lib.hid (fun W (hb : Below w3.heap.size w3 W) => root_Make ⟨B1, m1', d1, B2, m2', d2, B3, m3', d3⟩ z W (hst3.out.to hb))
          rw [hmk] at hX
          unfold Rws.val stv at hX
          dsimp only at hX
          have hbe := str_eq (rfl : body = body)
          clear hmk hr' hs' hm'
          replace hRE := Lib.hid hRE
          replace hmb := Lib.hid hmb
          clear hml
          rw [show ((0 : Int) == 0) = true from by decide]
          go_wp2_with fail
          refine (hX.out _ (by repeat (first | exact Below.refl _ _ | assumption | refine Below.drew ?_ | refine below_drewN ?_ _ | refine Below.alloc ?_ (by first | omega | (simp; try omega)) _ | refine Below.setCell ?_ (by first | omega | (simp; try omega)) _ | (refine Below.trans ?_ (Below.mono (by assumption) (by first | omega | (simp; try omega))))))).mono ?_
          rintro e w4 ⟨rfl, hb4⟩
          have hz4 := hb4.size
          simp at hz4
          go_wp2_with fail
          go_meet
          exact (e3.alloc (by omega) _).trans (hb4.mono (by simp; omega))
        · rw [hrb.out] at hr'
          obtain ⟨rfl, rfl⟩ : z = stZero ∧ zx = 4 := by simpa using hr'
          clear hr'
          rw [show ((4 : Int) == 0) = false from by decide]
          go_wp2_with fail
          go_meet
          exact e3.alloc (by omega) _
      case rest =>
        have e4 : sb k nn next A1 n1 c1 A2 n2 c2 A3 n3 c3 w wc := hcut
        have f4 : Below w.heap.size w wc := (Below.alloc (Below.refl _ _) (by omega) _).trans (e4.mono (by omega))
        have hz4 : w.heap.size + 1 ≤ wc.heap.size := by simpa using e4.size
        obtain ⟨x0, x1, x2, x3, x4, x5⟩ := stBox_cells e4
        clear hcut
        go_wp2_with fail
        refine (hM.out _ f4).mono ?_
        rintro e w5 ⟨rfl, hb5⟩
        have hz5 := hb5.size
        have e5 := e4.trans (hb5.mono (by omega))
        have f5 := f4.trans (hb5.mono (by omega))
        clear x0 x1 x2 x3 x4 x5
        obtain ⟨x0, x1, x2, x3, x4, x5⟩ := stBox_cells e5
        cases mb
        · obtain rfl : E = 4 := by
            unfold makeRes at hRE
            rw [hmb] at hRE
            simp at hRE
            exact hRE.2.symm
          clear hRE hmb
          go_wp2_with fail
          refine (hY.out _ f5).mono ?_
          rintro e w6 ⟨rfl, hb6⟩
          have hz6 := hb6.size
          have e6 := e5.trans (hb6.mono (by omega))
          have f6 := f5.trans (hb6.mono (by omega))
          clear x0 x1 x2 x3 x4 x5
          obtain ⟨x0, x1, x2, x3, x4, x5⟩ := stBox_cells e6
          go_wp2_with fail
          refine (hY.out _ f6).mono ?_
          rintro e w7 ⟨rfl, hb7⟩
          go_wp2_with fail
          go_ret
          exact ⟨rfl, f6.trans (hb7.mono (by omega))⟩
        · obtain ⟨rfl, rfl⟩ : E = 0 ∧ R = str (stB ⟨k, nn, next, sn, cs, ps⟩) := by
            unfold makeRes at hRE
            rw [if_pos hmb] at hRE
            simp at hRE
            exact ⟨hRE.2.symm, hRE.1.symm⟩
          have l1 := Lib.hid hst.out.sn.1
          have l2 := Lib.hid hst.out.cs.1
          have l3 := Lib.hid hst.out.ps.1
          dsimp only at l1 l2 l3
          have hlen := stB_len hmb
          dsimp only at hlen
          rw [l1.out, l2.out] at hlen
          have hcl := (mayState_good hmb).csLen
          dsimp only at hcl
          rw [l2.out, l3.out] at hcl
          have hg400 : Hid (n1 ≤ 32 ∧ n2 ≤ 400) := ⟨by have := (mayState_good hmb).snLen; dsimp only at this; rw [l1.out] at this; exact this, hcl.2⟩
          have hback : Hid (readRes (stB ⟨k, nn, next, sn, cs, ps⟩) = (⟨k, nn, next, sn, cs, ps⟩, 0)) := readRes_back hmb
          have hls : Hid (∀ q, mayState ⟨k, nn, next, sn.eraseIdx q, cs, ps⟩ = true) := fun q => less_snap hmb q
          have hlc : Hid (∀ q, mayState ⟨k, nn, next, sn, cs.eraseIdx q, ps.eraseIdx q⟩ = true) := fun q => less_chunk hmb q
          clear hRE hM
          replace hmb := Lib.hid hmb
          have hRs : (str (stB ⟨k, nn, next, sn, cs, ps⟩)).size = (stB ⟨k, nn, next, sn, cs, ps⟩).length := str_size _
          generalize stB ⟨k, nn, next, sn, cs, ps⟩ = l at hlen hback hRs ⊢
          have hcmp : ((l.length : Int) != 13 + 44 * (n1 : Int) + 72 * (n2 : Int)) = false := by simp; omega
          have hl5 : l.length ≤ 300000 := by omega
          have hl6 : l.length ≤ 100000 := by have := hg400.out.1; have := hg400.out.2; omega
          replace hlen := Lib.hid hlen
          replace hcl := Lib.hid hcl
          go_wp2_with fail
          refine (hY.out _ f5).mono ?_
          rintro e w6 ⟨rfl, hb6⟩
          have hz6 := hb6.size
          have e6 := e5.trans (hb6.mono (by omega))
          have f6 := f5.trans (hb6.mono (by omega))
          clear x0 x1 x2 x3 x4 x5
          have ct := read_st l w6 (by omega) hback.out
          replace ct := Lib.hid ct
          go_wp2_with fail
          refine ct.out.mono ?_
          clear ct
          rintro e w7 ⟨⟨G1, p1, o1, G2, p2, o2, G3, p3, o3⟩, rfl, hst7, -, hb7⟩
          dsimp only
          have hz7 := hb7.size
          have e7 := e6.trans (hb7.mono (by omega))
          have f7 := f6.trans (hb7.mono (by omega))
          obtain ⟨x0, x1, x2, x3, x4, x5⟩ := stBox_cells e7
          have hl7 : w.heap.size < w7.heap.size := by omega
          have hq7 : Hid (∀ W : World, Below w7.heap.size w7 W → Calls Try.prog 17 #[.agg #[.int .i64 k, .int .i64 nn, .int .i64 next, .slice G1 p1 o1, .slice G2 p2 o2, .slice G3 p3 o3], .agg #[.int .i64 k, .int .i64 nn, .int .i64 next, .slice A1 n1 c1, .slice A2 n2 c2, .slice A3 n3 c3]] W fun e w' => e = .returned (.bool true) ∧ Below W.heap.size W w') := fun W hb => by
            have := ref17_Same ⟨G1, p1, o1, G2, p2, o2, G3, p3, o3⟩ ⟨A1, n1, c1, A2, n2, c2, A3, n3, c3⟩ ⟨k, nn, next, sn, cs, ps⟩ ⟨k, nn, next, sn, cs, ps⟩ W (hst7.to hb) (hst.out.to (f7.trans (hb.mono (by omega))))
            rwa [sameSt_self] at this
          go_wp2_with fail
          refine (hq7.out _ (by repeat (first | exact Below.refl _ _ | assumption | refine Below.drew ?_ | refine below_drewN ?_ _ | refine Below.alloc ?_ (by first | omega | (simp; try omega)) _ | refine Below.setCell ?_ (by first | omega | (simp; try omega)) _ | (refine Below.trans ?_ (Below.mono (by assumption) (by first | omega | (simp; try omega))))))).mono ?_
          rintro e w8 ⟨rfl, hb8⟩
          have hz8 := hb8.size
          simp at hz8
          have e8 := (e7.alloc (by omega) _).trans (hb8.mono (by simp; omega))
          have f8 : Below w.heap.size w w8 := (Below.alloc (Below.refl _ _) (by omega) _).trans (e8.mono (by omega))
          clear x0 x1 x2 x3 x4 x5
          obtain ⟨x0, x1, x2, x3, x4, x5⟩ := stBox_cells e8
          go_upto_if 101 with fail
          go_cut [14, 15] (fun _ _ wd => sb k nn next A1 n1 c1 A2 n2 c2 A3 n3 c3 w wd)
          case first =>
            by_cases h0 : 0 < n1
            · have g0 : decide ((0 : Int) < (n1 : Int)) = true := by simp; omega
              have g0' : decide (0 < n1) = true := by simp; omega
              try rw [g0]
              try rw [g0']
              obtain ⟨b, off, s0, rfl, hb0, -, -, -, -⟩ := hst.out.sn.snap h0
              obtain ⟨u, q, hq, hw1, hw2, hw3, hw4, hw5⟩ := uint_vals n (m := n1) h0 (by omega) hn
              have hn0 : n1 ≠ 0 := by omega
              have hn0' : (n1 : Int) ≠ 0 := by omega
              have hq1 : (q : Int) ≤ (c1 : Int) := by omega
              have hq2 : (0 : Int) ≤ (q : Int) := by omega
              have hq3 : (q : Int) + 1 ≤ (n1 : Int) := by omega
              have hq4 : (0 : Int) ≤ (q : Int) + 1 := by omega
              have hw6 : Value.int .i64 (IntKind.i64.wrap ((q : Int) + 1)) = Value.int .i64 ((q : Int) + 1) := by rw [show ((q : Int) + 1) = ((q + 1 : Nat) : Int) by omega, wrap_i64 (by omega)]
              have hq5 : (n1 : Int) ≤ (c1 : Int) := by omega
              have bx := BoxAt.new w8 k nn next (.slice (some ⟨b, off, none⟩) n1 c1) (.slice A2 n2 c2) (.slice A3 n3 c3)
              have eW := e8.alloc (by omega) (.cells #[.int .i64 k, .int .i64 nn, .int .i64 next, .slice (some ⟨b, off, none⟩) n1 c1, .slice A2 n2 c2, .slice A3 n3 c3] 28)
              have fW := f8.alloc (by omega) (.cells #[.int .i64 k, .int .i64 nn, .int .i64 next, .slice (some ⟨b, off, none⟩) n1 c1, .slice A2 n2 c2, .slice A3 n3 c3] 28)
              have zW : (w8.alloc (.cells #[.int .i64 k, .int .i64 nn, .int .i64 next, .slice (some ⟨b, off, none⟩) n1 c1, .slice A2 n2 c2, .slice A3 n3 c3] 28)).heap.size = w8.heap.size + 1 := by simp
              have hl8 : w.heap.size < w8.heap.size := by omega
              replace bx := Lib.hid bx
              go_wp2_with fail
              generalize w8.alloc (.cells #[.int .i64 k, .int .i64 nn, .int .i64 next, .slice (some ⟨b, off, none⟩) n1 c1, .slice A2 n2 c2, .slice A3 n3 c3] 28) = W1 at bx eW fW zW ⊢
              obtain ⟨bt, hbt⟩ : ∃ x, w8.heap.size = x := ⟨_, rfl⟩
              rw [hbt] at bx zW ⊢
              clear x0 x1 x2 x3 x4 x5
              obtain ⟨x0, x1, x2, x3, x4, x5⟩ := stBox_cells eW
              have hlW : w.heap.size < W1.heap.size := by omega
              have hbtl : w.heap.size < bt := by omega
              have hrow : Hid (SnapsAt w w.heap.size (some ⟨b, off, none⟩) n1 sn) := hst.out.sn
              have hbtW : bt < W1.heap.size := by omega
              replace zW := Lib.hid zW
              replace hbt := Lib.hid hbt
              refine region_held_tail 12 (fun W : World => W.cell? ⟨w.heap.size, 3, none⟩ = some (.slice (some ⟨b, off, none⟩) n1 c1)) (by kernel_rfl) (by kernel_rfl) ?_
              have hHeld : (fun W : World => W.cell? ⟨w.heap.size, 3, none⟩ = some (.slice (some ⟨b, off, none⟩) n1 c1)) W1.drew := x3
              (refine HT.takeL (i := 1) (v := ?_) rfl (by kernel_rfl) (fun _ _ _ h => h) (Or.inl ⟨by rfl, ?_⟩) (by assumption) ?_
               rotate_left
               · (intro w hSw; (try dsimp only at hSw); go_simp; (try with_reducible rfl))
               try simp only [Act.put, List.setIfInBounds_toArray, List.set_cons_zero, List.set_cons_succ])
              (refine HT.takeL (i := 2) (v := ?_) rfl (by kernel_rfl) (fun _ _ _ h => h) (Or.inl ⟨by rfl, ?_⟩) (by assumption) ?_
               rotate_left
               · (intro w hSw; (try dsimp only at hSw); go_simp; (try with_reducible rfl))
               try simp only [Act.put, List.setIfInBounds_toArray, List.set_cons_zero, List.set_cons_succ])
              (refine HT.takeL (i := 3) (v := ?_) rfl (by kernel_rfl) (fun _ _ _ h => h) (Or.inl ⟨by rfl, ?_⟩) (by assumption) ?_
               rotate_left
               · (intro w hSw; (try dsimp only at hSw); go_simp; (try with_reducible rfl))
               try simp only [Act.put, List.setIfInBounds_toArray, List.set_cons_zero, List.set_cons_succ])
              (refine HT.takeL (i := 4) (v := ?_) rfl (by kernel_rfl) (fun _ _ _ h => h) (Or.inl ⟨by rfl, ?_⟩) (by assumption) ?_
               rotate_left
               · (intro w hSw; (try dsimp only at hSw); go_simp; (try with_reducible rfl))
               try simp only [Act.put, List.setIfInBounds_toArray, List.set_cons_zero, List.set_cons_succ])
              (refine HT.takeL (i := 6) (v := ?_) rfl (by kernel_rfl) (fun _ _ _ h => h) (Or.inl ⟨by rfl, ?_⟩) (by assumption) ?_
               rotate_left
               · (intro w hSw; (try dsimp only at hSw); go_simp; (try with_reducible rfl))
               try simp only [Act.put, List.setIfInBounds_toArray, List.set_cons_zero, List.set_cons_succ])
              (refine HT.takeL (i := 7) (v := ?_) rfl (by kernel_rfl) (fun _ _ _ h => h) (Or.inl ⟨by rfl, ?_⟩) (by assumption) ?_
               rotate_left
               · (intro w hSw; (try dsimp only at hSw); go_simp; (try with_reducible rfl))
               try simp only [Act.put, List.setIfInBounds_toArray, List.set_cons_zero, List.set_cons_succ])
              (refine HT.takeL (i := 8) (v := ?_) rfl (by kernel_rfl) (fun _ _ _ h => h) (Or.inl ⟨by rfl, ?_⟩) (by assumption) ?_
               rotate_left
               · (intro w hSw; (try dsimp only at hSw); go_simp; (try with_reducible rfl))
               try simp only [Act.put, List.setIfInBounds_toArray, List.set_cons_zero, List.set_cons_succ])
              (refine HT.takeL (i := 9) (v := ?_) rfl (by kernel_rfl) (fun _ _ _ h => h) (Or.inl ⟨by rfl, ?_⟩) (by assumption) ?_
               rotate_left
               · (intro w hSw; (try dsimp only at hSw); go_simp; (try with_reducible rfl))
               try simp only [Act.put, List.setIfInBounds_toArray, List.set_cons_zero, List.set_cons_succ])
              (refine HT.takeL (i := 10) (v := ?_) rfl (by kernel_rfl) (fun _ _ _ h => h) (Or.inl ⟨by rfl, ?_⟩) (by assumption) ?_
               rotate_left
               · (intro w hSw; (try dsimp only at hSw); go_simp; (try with_reducible rfl))
               try simp only [Act.put, List.setIfInBounds_toArray, List.set_cons_zero, List.set_cons_succ])
              (refine HT.onlyL (i := 0) rfl (by kernel_rfl) (fun K hK => ?_)
               go_simp
               refine hK.out _ _ ?_ (fun hHeld => ?_)
               · ((go_simp))
               clear hK K
               try simp only [Act.put, List.setIfInBounds_toArray, List.set_cons_zero, List.set_cons_succ])
              (refine HT.onlyL (i := 5) rfl (by kernel_rfl) (fun K hK => ?_)
               (refine Elem.step_row snapE (by rfl) (.tmp 111) (.tmp 115) (by rfl) (bt + 1) (.slice (some ⟨W1.heap.size, 0, none⟩) 0 0) [] (by rfl) _ _ _ (sn.take q) (by rfl) (Owns.emptyAt _ (by first | rfl | simp) (by first | omega | (simp; try omega))) _ ((hrow.out.to (by repeat (first | exact Below.refl _ _ | assumption | refine Below.drew ?_ | refine below_drewN ?_ _ | refine Below.alloc ?_ (by first | omega | (simp; try omega)) _ | refine Below.setCell ?_ (by first | omega | (simp; try omega)) _ | (refine Below.trans ?_ (Below.mono (by assumption) (by first | omega | (simp; try omega))))))).headRow (by omega)) (by (try simp only [List.length_nil, Nat.zero_add]); omega) (by first | omega | (simp; try omega)) ?_; intro v5 w5 hown5 hg5 hat5; rw [List.nil_append] at hown5; obtain ⟨A5, c5, rfl⟩ : ∃ A c, v5 = .slice A q c := (by obtain ⟨A, c, e⟩ := hown5.form; exact ⟨A, c, by rw [e, List.length_take, l1.out, Nat.min_eq_left (by omega)]⟩); have hz5' := hg5.size; (try simp at hz5'); have bx5 := (bx.out.drew.alloc _).grown hg5 (by simp [Value.ownBlock]; omega); have b5 : Below W1.heap.size W1 w5 := Below.grown (by repeat (first | exact Below.refl _ _ | assumption | refine Below.drew ?_ | refine below_drewN ?_ _ | refine Below.alloc ?_ (by first | omega | (simp; try omega)) _ | refine Below.setCell ?_ (by first | omega | (simp; try omega)) _ | (refine Below.trans ?_ (Below.mono (by assumption) (by first | omega | (simp; try omega)))))) hg5 (by first | omega | (simp; try omega)) (fun _ hi => own_in hi (by first | omega | (simp; try omega))); have f5w := fW.trans (b5.mono (by omega)); have x53 := (b5.cell (p := ⟨w.heap.size, 3, none⟩) hlW).trans x3)
               refine hK.out _ _ ?_ (fun hHeld => ?_)
               · (exact x53)
               clear hK K
               try simp only [Act.put, List.setIfInBounds_toArray, List.set_cons_zero, List.set_cons_succ])
              (refine HT.onlyL (i := 11) rfl (by kernel_rfl) (fun K hK => ?_)
               (refine Elem.step_row snapE (by rfl) (.tmp 116) (.tmp 121) (by rfl) (bt + 1) (.slice A5 q c5) (sn.take q) (by rfl) _ _ _ (sn.drop (q + 1)) (by rfl) hown5 _ ((hrow.out.to f5w).tailIf (n := q + 1) (c := c1) (by omega) (by omega)) (by rw [List.length_take]; omega) (by first | omega | (simp; try omega)) ?_; intro v6 w6 hown6 hg6 hat6; rw [← erase_cut] at hown6; obtain ⟨A6, m6, c6, hm6, rfl⟩ : ∃ A m c, m = (sn.eraseIdx q).length ∧ v6 = .slice A m c := (by obtain ⟨A, c, e⟩ := hown6.form; exact ⟨A, _, c, rfl, e⟩); replace hm6 := Lib.hid hm6; have bx6 := bx5.grown hg6 (hown5.ne_some (by omega)); have b6 : Below W1.heap.size W1 w6 := b5.grown hg6 (by omega) (fun i hi => by have := (hown5.within hi).1; have := zW.out; omega); have hz6' := b6.size; have x63 := (b6.cell (p := ⟨w.heap.size, 3, none⟩) hlW).trans x3)
               refine hK.out _ _ ?_ (fun hHeld => ?_)
               · (exact x63)
               clear hK K
               try simp only [Act.put, List.setIfInBounds_toArray, List.set_cons_zero, List.set_cons_succ])
              refine HT.tail (by kernel_rfl) ?_
              simp only [List.drop_succ_cons, List.drop_zero]
              generalize hAA : (if c1 = q + 1 then (some (⟨b, off, none⟩ : Addr)) else some ⟨b, off + (q + 1) * 3, none⟩) = AA
              replace hAA := Lib.hid hAA
              obtain ⟨y0, y1, y2, y3, y4, y5⟩ := bx6.cells
              have fz := bx6.frozen 3
              have eW6 := eW.trans (b6.mono (by omega))
              have fW6 := fW.trans (b6.mono (by omega))
              replace bx6 := Lib.hid bx6
              replace hown6 := Lib.hid hown6
              clear hown5 bx5 hg5 hg6 hat5 hat6 hHeld x53 x63 hw1 hw2 hw3 hw4 hw5 hw6 x0 x1 x2 x3 x4 x5
              go_upto_region 18 with fail
              have bxs := bx6.out.set3 (.slice A6 m6 c6)
              have ownS := hown6.out.setOther (b := bt) (o := 3) (.slice A6 m6 c6) (by omega)
              have eS := eW6.setCell (p := ⟨bt, 3, none⟩) (by show w.heap.size + 1 ≤ bt; omega) (.slice A6 m6 c6)
              have fS := fW6.setCell (p := ⟨bt, 3, none⟩) (by show w.heap.size ≤ bt; omega) (.slice A6 m6 c6)
              have zS : w6.heap.size ≤ (w6.setCell ⟨bt, 3, none⟩ (.slice A6 m6 c6)).heap.size := by simp
              generalize w6.setCell ⟨bt, 3, none⟩ (.slice A6 m6 c6) = W6 at bxs ownS eS fS zS ⊢
              clear y0 y1 y2 y3 y4 y5 fz
              obtain ⟨y0, y1, y2, y3, y4, y5⟩ := bxs.cells
              have hst' : StAt W6 W6.heap.size ⟨A6, m6, c6, A2, n2, c2, A3, n3, c3⟩ ⟨k, nn, next, sn.eraseIdx q, cs, ps⟩ := ⟨ownS.row Snap.len, hst.out.cs.to fS, hst.out.ps.to fS, hst.out.ok⟩
              have hm := root_May _ _ _ hst'
              rw [hls.out q] at hm
              unfold Rws.val stv at hm
              dsimp only at hm
              replace hm := Lib.hid hm
              clear hst' bxs ownS hcmp hRs hml hg1
              go_wp2_with fail
              refine hm.out.mono ?_
              rintro e w9 ⟨rfl, hb9⟩
              go_wp2_with fail
              go_meet
              exact eS.trans (hb9.mono (by omega))
            · have g0 : decide ((0 : Int) < (n1 : Int)) = false := by simp; omega
              have g0' : decide (0 < n1) = false := by simp; omega
              try rw [g0]
              try rw [g0']
              go_wp2_with fail
              go_meet
              exact e8
          case rest =>
            obtain ⟨wd, rfl⟩ : ∃ x : World, x = wc := ⟨_, rfl⟩
            have e9 : sb k nn next A1 n1 c1 A2 n2 c2 A3 n3 c3 w wd := hcut
            have f9 : Below w.heap.size w wd := (Below.alloc (Below.refl _ _) (by omega) _).trans (e9.mono (by omega))
            have hz9 : w.heap.size + 1 ≤ wd.heap.size := by simpa using e9.size
            clear x0 x1 x2 x3 x4 x5 hcut
            obtain ⟨x0, x1, x2, x3, x4, x5⟩ := stBox_cells e9
            obtain ⟨hn23, hn400⟩ := hcl.out
            subst hn23
            by_cases h0 : 0 < n2
            · have g0 : decide ((0 : Int) < (n2 : Int)) = true := by simp; omega
              have g0' : decide (0 < n2) = true := by simp; omega
              obtain ⟨b, off, s0, rfl, hb0, -, -⟩ := hst.out.cs.str h0
              obtain ⟨b3, off3, s3, rfl, hb3, -, -, -, -⟩ := hst.out.ps.place h0
              obtain ⟨u, q, hq, hw1, hw2, hw3, hw4, hw5⟩ := uint_vals n (m := n2) h0 (by omega) hn
              have hn0 : n2 ≠ 0 := by omega
              have hn0' : (n2 : Int) ≠ 0 := by omega
              have hq1 : (q : Int) ≤ (c2 : Int) := by omega
              have hq1' : (q : Int) ≤ (c3 : Int) := by omega
              have hq2 : (0 : Int) ≤ (q : Int) := by omega
              have hq3 : (q : Int) + 1 ≤ (n2 : Int) := by omega
              have hq4 : (0 : Int) ≤ (q : Int) + 1 := by omega
              have hw6 : Value.int .i64 (IntKind.i64.wrap ((q : Int) + 1)) = Value.int .i64 ((q : Int) + 1) := by rw [show ((q : Int) + 1) = ((q + 1 : Nat) : Int) by omega, wrap_i64 (by omega)]
              have hq5 : (n2 : Int) ≤ (c2 : Int) := by omega
              have hq6 : (n2 : Int) ≤ (c3 : Int) := by omega
              have bx := BoxAt.new wd k nn next (.slice A1 n1 c1) (.slice (some ⟨b, off, none⟩) n2 c2) (.slice (some ⟨b3, off3, none⟩) n2 c3)
              have eW := e9.alloc (by omega) (.cells #[.int .i64 k, .int .i64 nn, .int .i64 next, .slice A1 n1 c1, .slice (some ⟨b, off, none⟩) n2 c2, .slice (some ⟨b3, off3, none⟩) n2 c3] 28)
              have fW := f9.alloc (by omega) (.cells #[.int .i64 k, .int .i64 nn, .int .i64 next, .slice A1 n1 c1, .slice (some ⟨b, off, none⟩) n2 c2, .slice (some ⟨b3, off3, none⟩) n2 c3] 28)
              have zW : (wd.alloc (.cells #[.int .i64 k, .int .i64 nn, .int .i64 next, .slice A1 n1 c1, .slice (some ⟨b, off, none⟩) n2 c2, .slice (some ⟨b3, off3, none⟩) n2 c3] 28)).heap.size = wd.heap.size + 1 := by simp
              have hl8 : w.heap.size < wd.heap.size := by omega
              replace bx := Lib.hid bx
              go_wp2_with fail
              generalize wd.alloc (.cells #[.int .i64 k, .int .i64 nn, .int .i64 next, .slice A1 n1 c1, .slice (some ⟨b, off, none⟩) n2 c2, .slice (some ⟨b3, off3, none⟩) n2 c3] 28) = W1 at bx eW fW zW ⊢
              obtain ⟨bt, hbt⟩ : ∃ x, wd.heap.size = x := ⟨_, rfl⟩
              rw [hbt] at bx zW ⊢
              clear x0 x1 x2 x3 x4 x5
              obtain ⟨x0, x1, x2, x3, x4, x5⟩ := stBox_cells eW
              have hlW : w.heap.size < W1.heap.size := by omega
              have hbtl : w.heap.size < bt := by omega
              have hrow : Hid (StrsAt w w.heap.size (some ⟨b, off, none⟩) n2 cs) := hst.out.cs
              have hrow3 : Hid (PlacesAt w w.heap.size (some ⟨b3, off3, none⟩) n2 ps) := hst.out.ps
              have hbtW : bt < W1.heap.size := by omega
              replace zW := Lib.hid zW
              replace hbt := Lib.hid hbt
              refine region_held_tail 12 (fun W : World => W.cell? ⟨w.heap.size, 4, none⟩ = some (.slice (some ⟨b, off, none⟩) n2 c2)) (by kernel_rfl) (by kernel_rfl) ?_
              have hHeld : (fun W : World => W.cell? ⟨w.heap.size, 4, none⟩ = some (.slice (some ⟨b, off, none⟩) n2 c2)) W1.drew := x4
              (refine HT.takeL (i := 1) (v := ?_) rfl (by kernel_rfl) (fun _ _ _ h => h) (Or.inl ⟨by rfl, ?_⟩) (by assumption) ?_
               rotate_left
               · (intro w hSw; (try dsimp only at hSw); go_simp; (try with_reducible rfl))
               try simp only [Act.put, List.setIfInBounds_toArray, List.set_cons_zero, List.set_cons_succ])
              (refine HT.takeL (i := 2) (v := ?_) rfl (by kernel_rfl) (fun _ _ _ h => h) (Or.inl ⟨by rfl, ?_⟩) (by assumption) ?_
               rotate_left
               · (intro w hSw; (try dsimp only at hSw); go_simp; (try with_reducible rfl))
               try simp only [Act.put, List.setIfInBounds_toArray, List.set_cons_zero, List.set_cons_succ])
              (refine HT.takeL (i := 3) (v := ?_) rfl (by kernel_rfl) (fun _ _ _ h => h) (Or.inl ⟨by rfl, ?_⟩) (by assumption) ?_
               rotate_left
               · (intro w hSw; (try dsimp only at hSw); go_simp; (try with_reducible rfl))
               try simp only [Act.put, List.setIfInBounds_toArray, List.set_cons_zero, List.set_cons_succ])
              (refine HT.takeL (i := 4) (v := ?_) rfl (by kernel_rfl) (fun _ _ _ h => h) (Or.inl ⟨by rfl, ?_⟩) (by assumption) ?_
               rotate_left
               · (intro w hSw; (try dsimp only at hSw); go_simp; (try with_reducible rfl))
               try simp only [Act.put, List.setIfInBounds_toArray, List.set_cons_zero, List.set_cons_succ])
              (refine HT.takeL (i := 6) (v := ?_) rfl (by kernel_rfl) (fun _ _ _ h => h) (Or.inl ⟨by rfl, ?_⟩) (by assumption) ?_
               rotate_left
               · (intro w hSw; (try dsimp only at hSw); go_simp; (try with_reducible rfl))
               try simp only [Act.put, List.setIfInBounds_toArray, List.set_cons_zero, List.set_cons_succ])
              (refine HT.takeL (i := 7) (v := ?_) rfl (by kernel_rfl) (fun _ _ _ h => h) (Or.inl ⟨by rfl, ?_⟩) (by assumption) ?_
               rotate_left
               · (intro w hSw; (try dsimp only at hSw); go_simp; (try with_reducible rfl))
               try simp only [Act.put, List.setIfInBounds_toArray, List.set_cons_zero, List.set_cons_succ])
              (refine HT.takeL (i := 8) (v := ?_) rfl (by kernel_rfl) (fun _ _ _ h => h) (Or.inl ⟨by rfl, ?_⟩) (by assumption) ?_
               rotate_left
               · (intro w hSw; (try dsimp only at hSw); go_simp; (try with_reducible rfl))
               try simp only [Act.put, List.setIfInBounds_toArray, List.set_cons_zero, List.set_cons_succ])
              (refine HT.takeL (i := 9) (v := ?_) rfl (by kernel_rfl) (fun _ _ _ h => h) (Or.inl ⟨by rfl, ?_⟩) (by assumption) ?_
               rotate_left
               · (intro w hSw; (try dsimp only at hSw); go_simp; (try with_reducible rfl))
               try simp only [Act.put, List.setIfInBounds_toArray, List.set_cons_zero, List.set_cons_succ])
              (refine HT.takeL (i := 10) (v := ?_) rfl (by kernel_rfl) (fun _ _ _ h => h) (Or.inl ⟨by rfl, ?_⟩) (by assumption) ?_
               rotate_left
               · (intro w hSw; (try dsimp only at hSw); go_simp; (try with_reducible rfl))
               try simp only [Act.put, List.setIfInBounds_toArray, List.set_cons_zero, List.set_cons_succ])
              (refine HT.onlyL (i := 0) rfl (by kernel_rfl) (fun K hK => ?_)
               go_simp
               refine hK.out _ _ ?_ (fun hHeld => ?_)
               · ((go_simp))
               clear hK K
               try simp only [Act.put, List.setIfInBounds_toArray, List.set_cons_zero, List.set_cons_succ])
              (refine HT.onlyL (i := 5) rfl (by kernel_rfl) (fun K hK => ?_)
               (refine Elem.step_row strE (by rfl) (.tmp 140) (.tmp 144) (by rfl) (bt + 1) (.slice (some ⟨W1.heap.size, 0, none⟩) 0 0) [] (by rfl) _ _ _ (cs.take q) (by rfl) (Owns.emptyAt _ (by first | rfl | simp) (by first | omega | (simp; try omega))) _ ((hrow.out.to (by repeat (first | exact Below.refl _ _ | assumption | refine Below.drew ?_ | refine below_drewN ?_ _ | refine Below.alloc ?_ (by first | omega | (simp; try omega)) _ | refine Below.setCell ?_ (by first | omega | (simp; try omega)) _ | (refine Below.trans ?_ (Below.mono (by assumption) (by first | omega | (simp; try omega))))))).headRow (by omega)) (by (try simp only [List.length_nil, Nat.zero_add]); omega) (by first | omega | (simp; try omega)) ?_; intro v5 w5 hown5 hg5 hat5; rw [List.nil_append] at hown5; obtain ⟨A5, c5, rfl⟩ : ∃ A c, v5 = .slice A q c := (by obtain ⟨A, c, e⟩ := hown5.form; exact ⟨A, c, by rw [e, List.length_take, l2.out, Nat.min_eq_left (by omega)]⟩); have hz5' := hg5.size; (try simp at hz5'); have bx5 := (bx.out.drew.alloc _).grown hg5 (by simp [Value.ownBlock]; omega); have b5 : Below W1.heap.size W1 w5 := Below.grown (by repeat (first | exact Below.refl _ _ | assumption | refine Below.drew ?_ | refine below_drewN ?_ _ | refine Below.alloc ?_ (by first | omega | (simp; try omega)) _ | refine Below.setCell ?_ (by first | omega | (simp; try omega)) _ | (refine Below.trans ?_ (Below.mono (by assumption) (by first | omega | (simp; try omega)))))) hg5 (by first | omega | (simp; try omega)) (fun _ hi => own_in hi (by first | omega | (simp; try omega))); have f5w := fW.trans (b5.mono (by omega)); have x53 := (b5.cell (p := ⟨w.heap.size, 4, none⟩) hlW).trans x4)
               refine hK.out _ _ ?_ (fun hHeld => ?_)
               · (exact x53)
               clear hK K
               try simp only [Act.put, List.setIfInBounds_toArray, List.set_cons_zero, List.set_cons_succ])
              (refine HT.onlyL (i := 11) rfl (by kernel_rfl) (fun K hK => ?_)
               (refine Elem.step_row strE (by rfl) (.tmp 145) (.tmp 150) (by rfl) (bt + 1) (.slice A5 q c5) (cs.take q) (by rfl) _ _ _ (cs.drop (q + 1)) (by rfl) hown5 _ (by have h9 := (hrow.out.to f5w).tailIf (n := q + 1) (c := c2) (by omega) (by omega); simp only [Nat.mul_one] at h9; exact h9) (by rw [List.length_take]; omega) (by first | omega | (simp; try omega)) ?_; intro v6 w6 hown6 hg6 hat6; rw [← erase_cut] at hown6; obtain ⟨A6, m6, c6, hm6, rfl⟩ : ∃ A m c, m = (cs.eraseIdx q).length ∧ v6 = .slice A m c := (by obtain ⟨A, c, e⟩ := hown6.form; exact ⟨A, _, c, rfl, e⟩); replace hm6 := Lib.hid hm6; have bx6 := bx5.grown hg6 (hown5.ne_some (by omega)); have b6 : Below W1.heap.size W1 w6 := b5.grown hg6 (by omega) (fun i hi => by have := (hown5.within hi).1; have := zW.out; omega); have hz6' := b6.size; have x63 := (b6.cell (p := ⟨w.heap.size, 4, none⟩) hlW).trans x4)
               refine hK.out _ _ ?_ (fun hHeld => ?_)
               · (exact x63)
               clear hK K
               try simp only [Act.put, List.setIfInBounds_toArray, List.set_cons_zero, List.set_cons_succ])
              refine HT.tail (by kernel_rfl) ?_
              simp only [List.drop_succ_cons, List.drop_zero]
              generalize hAA : (if c2 = q + 1 then (some (⟨b, off, none⟩ : Addr)) else some ⟨b, off + (q + 1), none⟩) = AA
              replace hAA := Lib.hid hAA
              obtain ⟨y0, y1, y2, y3, y4, y5⟩ := bx6.cells
              have fz := bx6.frozen 4
              have bxs := bx6.set4 (.slice A6 m6 c6)
              have own2 := hown6.setOther (b := bt) (o := 4) (.slice A6 m6 c6) (by omega)
              have eW2 := (eW.trans (b6.mono (by omega))).setCell (p := ⟨bt, 4, none⟩) (by show w.heap.size + 1 ≤ bt; omega) (.slice A6 m6 c6)
              have fW2 := (fW.trans (b6.mono (by omega))).setCell (p := ⟨bt, 4, none⟩) (by show w.heap.size ≤ bt; omega) (.slice A6 m6 c6)
              have zW2 : (w6.setCell ⟨bt, 4, none⟩ (.slice A6 m6 c6)).heap.size = w6.heap.size := by simp
              replace bxs := Lib.hid bxs
              replace own2 := Lib.hid own2
              clear hown5 hown6 bx5 bx6 hg5 hg6 hat5 hat6 hHeld x53 x63 x0 x1 x2 x3 x4 x5
              go_upto_region 24 with fail
              generalize w6.setCell ⟨bt, 4, none⟩ (.slice A6 m6 c6) = W2 at bxs own2 eW2 fW2 zW2 ⊢
              clear y0 y1 y2 y3 y4 y5 fz
              obtain ⟨x0, x1, x2, x3, x4, x5⟩ := stBox_cells eW2
              have hlW2 : w.heap.size < W2.heap.size := by omega
              have hbt2 : bt < W2.heap.size := by omega
              replace zW2 := Lib.hid zW2
              refine region_held_tail 12 (fun W : World => W.cell? ⟨w.heap.size, 5, none⟩ = some (.slice (some ⟨b3, off3, none⟩) n2 c3)) (by kernel_rfl) (by kernel_rfl) ?_
              have hHeld : (fun W : World => W.cell? ⟨w.heap.size, 5, none⟩ = some (.slice (some ⟨b3, off3, none⟩) n2 c3)) W2.drew := x5
              (refine HT.takeL (i := 1) (v := ?_) rfl (by kernel_rfl) (fun _ _ _ h => h) (Or.inl ⟨by rfl, ?_⟩) (by assumption) ?_
               rotate_left
               · (intro w hSw; (try dsimp only at hSw); go_simp; (try with_reducible rfl))
               try simp only [Act.put, List.setIfInBounds_toArray, List.set_cons_zero, List.set_cons_succ])
              (refine HT.takeL (i := 2) (v := ?_) rfl (by kernel_rfl) (fun _ _ _ h => h) (Or.inl ⟨by rfl, ?_⟩) (by assumption) ?_
               rotate_left
               · (intro w hSw; (try dsimp only at hSw); go_simp; (try with_reducible rfl))
               try simp only [Act.put, List.setIfInBounds_toArray, List.set_cons_zero, List.set_cons_succ])
              (refine HT.takeL (i := 3) (v := ?_) rfl (by kernel_rfl) (fun _ _ _ h => h) (Or.inl ⟨by rfl, ?_⟩) (by assumption) ?_
               rotate_left
               · (intro w hSw; (try dsimp only at hSw); go_simp; (try with_reducible rfl))
               try simp only [Act.put, List.setIfInBounds_toArray, List.set_cons_zero, List.set_cons_succ])
              (refine HT.takeL (i := 4) (v := ?_) rfl (by kernel_rfl) (fun _ _ _ h => h) (Or.inl ⟨by rfl, ?_⟩) (by assumption) ?_
               rotate_left
               · (intro w hSw; (try dsimp only at hSw); go_simp; (try with_reducible rfl))
               try simp only [Act.put, List.setIfInBounds_toArray, List.set_cons_zero, List.set_cons_succ])
              (refine HT.takeL (i := 6) (v := ?_) rfl (by kernel_rfl) (fun _ _ _ h => h) (Or.inl ⟨by rfl, ?_⟩) (by assumption) ?_
               rotate_left
               · (intro w hSw; (try dsimp only at hSw); go_simp; (try with_reducible rfl))
               try simp only [Act.put, List.setIfInBounds_toArray, List.set_cons_zero, List.set_cons_succ])
              (refine HT.takeL (i := 7) (v := ?_) rfl (by kernel_rfl) (fun _ _ _ h => h) (Or.inl ⟨by rfl, ?_⟩) (by assumption) ?_
               rotate_left
               · (intro w hSw; (try dsimp only at hSw); go_simp; (try with_reducible rfl))
               try simp only [Act.put, List.setIfInBounds_toArray, List.set_cons_zero, List.set_cons_succ])
              (refine HT.takeL (i := 8) (v := ?_) rfl (by kernel_rfl) (fun _ _ _ h => h) (Or.inl ⟨by rfl, ?_⟩) (by assumption) ?_
               rotate_left
               · (intro w hSw; (try dsimp only at hSw); go_simp; (try with_reducible rfl))
               try simp only [Act.put, List.setIfInBounds_toArray, List.set_cons_zero, List.set_cons_succ])
              (refine HT.takeL (i := 9) (v := ?_) rfl (by kernel_rfl) (fun _ _ _ h => h) (Or.inl ⟨by rfl, ?_⟩) (by assumption) ?_
               rotate_left
               · (intro w hSw; (try dsimp only at hSw); go_simp; (try with_reducible rfl))
               try simp only [Act.put, List.setIfInBounds_toArray, List.set_cons_zero, List.set_cons_succ])
              (refine HT.takeL (i := 10) (v := ?_) rfl (by kernel_rfl) (fun _ _ _ h => h) (Or.inl ⟨by rfl, ?_⟩) (by assumption) ?_
               rotate_left
               · (intro w hSw; (try dsimp only at hSw); go_simp; (try with_reducible rfl))
               try simp only [Act.put, List.setIfInBounds_toArray, List.set_cons_zero, List.set_cons_succ])
              (refine HT.onlyL (i := 0) rfl (by kernel_rfl) (fun K hK => ?_)
               go_simp
               refine hK.out _ _ ?_ (fun hHeld => ?_)
               · ((go_simp))
               clear hK K
               try simp only [Act.put, List.setIfInBounds_toArray, List.set_cons_zero, List.set_cons_succ])
              (refine HT.onlyL (i := 5) rfl (by kernel_rfl) (fun K hK => ?_)
               (refine Elem.step_row placeE (by rfl) (.tmp 153) (.tmp 157) (by rfl) W2.heap.size (.slice (some ⟨W2.heap.size, 0, none⟩) 0 0) [] (by rfl) _ _ _ (ps.take q) (by rfl) (Owns.emptyAt _ (by first | rfl | simp) (by first | omega | (simp; try omega))) _ ((hrow3.out.to (by repeat (first | exact Below.refl _ _ | assumption | refine Below.drew ?_ | refine below_drewN ?_ _ | refine Below.alloc ?_ (by first | omega | (simp; try omega)) _ | refine Below.setCell ?_ (by first | omega | (simp; try omega)) _ | (refine Below.trans ?_ (Below.mono (by assumption) (by first | omega | (simp; try omega))))))).headRow (by omega)) (by (try simp only [List.length_nil, Nat.zero_add]); omega) (by first | omega | (simp; try omega)) ?_; intro v7 w7 hown7 hg7 hat7; rw [List.nil_append] at hown7; obtain ⟨A7, c7, rfl⟩ : ∃ A c, v7 = .slice A q c := (by obtain ⟨A, c, e⟩ := hown7.form; exact ⟨A, c, by rw [e, List.length_take, l3.out, Nat.min_eq_left (by omega)]⟩); have hz7' := hg7.size; (try simp at hz7'); have bx7 := (bxs.out.drew.alloc _).grown hg7 (by simp [Value.ownBlock]; omega); have own3 := ((own2.out.drew).alloc _).grown hg7 (own2.out.ne_new (Nat.le_refl _)); have b7 : Below W2.heap.size W2 w7 := Below.grown (by repeat (first | exact Below.refl _ _ | assumption | refine Below.drew ?_ | refine below_drewN ?_ _ | refine Below.alloc ?_ (by first | omega | (simp; try omega)) _ | refine Below.setCell ?_ (by first | omega | (simp; try omega)) _ | (refine Below.trans ?_ (Below.mono (by assumption) (by first | omega | (simp; try omega)))))) hg7 (by first | omega | (simp; try omega)) (fun _ hi => own_in hi (by first | omega | (simp; try omega))); have f7w := fW2.trans (b7.mono (by omega)); have x73 := (b7.cell (p := ⟨w.heap.size, 5, none⟩) hlW2).trans x5)
               refine hK.out _ _ ?_ (fun hHeld => ?_)
               · (exact x73)
               clear hK K
               try simp only [Act.put, List.setIfInBounds_toArray, List.set_cons_zero, List.set_cons_succ])
              (refine HT.onlyL (i := 11) rfl (by kernel_rfl) (fun K hK => ?_)
               (refine Elem.step_row placeE (by rfl) (.tmp 158) (.tmp 163) (by rfl) W2.heap.size (.slice A7 q c7) (ps.take q) (by rfl) _ _ _ (ps.drop (q + 1)) (by rfl) hown7 _ ((hrow3.out.to f7w).tailIf (n := q + 1) (c := c3) (by omega) (by omega)) (by rw [List.length_take]; omega) (by first | omega | (simp; try omega)) ?_; intro v8 w8' hown8 hg8 hat8; rw [← erase_cut] at hown8; obtain ⟨A8, m8, c8, hm8, rfl⟩ : ∃ A m c, m = (ps.eraseIdx q).length ∧ v8 = .slice A m c := (by obtain ⟨A, c, e⟩ := hown8.form; exact ⟨A, _, c, rfl, e⟩); replace hm8 := Lib.hid hm8; have bx8 := bx7.grown hg8 (hown7.ne_some hbt2); have own4 := own3.grown hg8 (ne_ranges (fun i hi => (own2.out.within hi).2) (fun i hi => (hown7.within hi).1)); have b8 : Below W2.heap.size W2 w8' := b7.grown hg8 (by omega) (fun i hi => (hown7.within hi).1); have hz8' := b8.size; have x83 := (b8.cell (p := ⟨w.heap.size, 5, none⟩) hlW2).trans x5)
               refine hK.out _ _ ?_ (fun hHeld => ?_)
               · (exact x83)
               clear hK K
               try simp only [Act.put, List.setIfInBounds_toArray, List.set_cons_zero, List.set_cons_succ])
              refine HT.tail (by kernel_rfl) ?_
              simp only [List.drop_succ_cons, List.drop_zero]
              generalize hAB : (if c3 = q + 1 then (some (⟨b3, off3, none⟩ : Addr)) else some ⟨b3, off3 + (q + 1) * 3, none⟩) = AB
              replace hAB := Lib.hid hAB
              obtain ⟨y0, y1, y2, y3, y4, y5⟩ := bx8.cells
              have fz := bx8.frozen 5
              have eW8 := eW2.trans (b8.mono (by omega))
              have fW8 := fW2.trans (b8.mono (by omega))
              replace bx8 := Lib.hid bx8
              replace hown8 := Lib.hid hown8
              replace own4 := Lib.hid own4
              clear hown7 own3 bx7 hg7 hg8 hat7 hat8 hHeld x73 x83 hw1 hw2 hw3 hw4 hw5 hw6 x0 x1 x2 x3 x4 x5
              go_upto_region 25 with fail
              have bx9 := bx8.out.set5 (.slice A8 m8 c8)
              have own5 := own4.out.setOther (b := bt) (o := 5) (.slice A8 m8 c8) (by omega)
              have own9 := hown8.out.setOther (b := bt) (o := 5) (.slice A8 m8 c8) (by omega)
              have fS := fW8.setCell (p := ⟨bt, 5, none⟩) (by show w.heap.size ≤ bt; omega) (.slice A8 m8 c8)
              generalize w8'.setCell ⟨bt, 5, none⟩ (.slice A8 m8 c8) = W6 at bx9 own5 own9 fS ⊢
              clear y0 y1 y2 y3 y4 y5 fz
              obtain ⟨y0, y1, y2, y3, y4, y5⟩ := bx9.cells
              have hst' : StAt W6 W6.heap.size ⟨A1, n1, c1, A6, m6, c6, A8, m8, c8⟩ ⟨k, nn, next, sn, cs.eraseIdx q, ps.eraseIdx q⟩ := ⟨hst.out.sn.to fS, own5.row strCell_len, own9.row Place.cells_len, fun p hp => hst.out.ok p (List.mem_of_mem_eraseIdx hp)⟩
              have hm := root_May _ _ _ hst'
              rw [hlc.out q] at hm
              unfold Rws.val stv at hm
              dsimp only at hm
              replace hm := Lib.hid hm
              clear hst' bx9 own5 own9
              go_wp2_with fail
              refine hm.out.mono ?_
              rintro e w9 ⟨rfl, hb9⟩
              go_wp2_with fail
              go_ret
              exact ⟨rfl, fS.trans (hb9.mono fS.size)⟩
            · have g0 : decide ((0 : Int) < (n2 : Int)) = false := by simp; omega
              have g0' : decide (0 < n2) = false := by simp; omega
              go_wp2_with fail
              go_ret
              exact ⟨rfl, (by repeat (first | exact Below.refl _ _ | assumption | refine Below.drew ?_ | refine below_drewN ?_ _ | refine Below.alloc ?_ (by first | omega | (simp; try omega)) _ | refine Below.setCell ?_ (by first | omega | (simp; try omega)) _ | (refine Below.trans ?_ (Below.mono (by assumption) (by first | omega | (simp; try omega))))))⟩
    · rintro e w2 ⟨rfl, hb2⟩
      have hz2 := hb2.size
      go_wp2_with fail
      refine (law23_works _).mono ?_
      rintro e w3 ⟨rfl, hb3⟩
      go_wp2_with fail
      go_ret
      exact ⟨rfl, f1.trans ((hb2.trans (hb3.mono (by omega))).mono (by omega))⟩
end Go.Proofs.Ythbmbbbojpdlaaa
