/-
  The walk of RootCut.
-/
import Derived.Test.YthbmbbbojpdlaaaWorks23
import Derived.Test.YthbmbbbojpdlaaaSameB
import Derived.Test.YthbmbbbojpdlaaaLarge
import Derived.Test.YthbmbbbojpdlaaaReadC
namespace Go.Proofs.Ythbmbbbojpdlaaa
open Go.RowKit
attribute [local go_sem ↓] Go.wp_at_zero Go.wp_at_succ

theorem Owns.slice_row {α : Type} {k : Nat} {enc : α → List Value} {T : TypeId} {w : World} {base : Nat} {A : Option Addr} {n c : Nat} {l : List α} (hk : ∀ x, (enc x).length = k) (h : Owns k enc T w base (.slice A n c) l) : RowAt k enc w w.heap.size A n l := h.row hk
/-- root.Read, as a law sees it: the state that it hands out. -/
theorem read_st (b : List UInt8) (w : World) (hb : b.length ≤ 100000) {s : St} {z : Int} (hr : readRes b = (s, z)) :
    Calls Try.prog 16 #[.string (str b)] w fun e w' => ∃ r : Rws, e = .returned (.tuple #[.agg #[.int .i64 s.k, .int .i64 s.n, .int .i64 s.next, .slice r.A1 r.n1 r.c1, .slice r.A2 r.n2 r.c2, .slice r.A3 r.n3 r.c3], .int .i64 z]) ∧ StAt w' w'.heap.size r s ∧
      (snapE.Own w' w.heap.size (.slice r.A1 r.n1 r.c1) s.sn ∧ strE.Own w' w.heap.size (.slice r.A2 r.n2 r.c2) s.cs ∧ placeE.Own w' w.heap.size (.slice r.A3 r.n3 r.c3) s.ps) ∧ Below w.heap.size w w' := by
  refine (root_Read b w hb).mono ?_
  rw [hr]
  rintro e w' ⟨r, rfl, o1, o2, o3, hok, hbw⟩
  exact ⟨r, rfl, ⟨o1.row Snap.len, o2.row strCell_len, o3.row Place.cells_len, hok⟩, ⟨o1, o2, o3⟩, hbw⟩
theorem stB_small {s : St} (h : mayState s = true) : 13 ≤ (stB s).length ∧ (stB s).length ≤ 30221 := by
  have hg := mayState_good h
  rw [stB_len h]
  have := hg.snLen
  have := hg.csLen
  omega

theorem extract_str (l : List UInt8) (q : Nat) : (str l).extract 0 q = str (l.take q) := by
  apply ByteArray.ext
  simp [str, ByteArray.data_extract]
theorem bl_nil {a : ByteArray} : bl a = [] ↔ a = ⟨#[]⟩ := by
  constructor
  · intro h
    exact bl_inj (by rw [h])
  · rintro rfl
    rfl
theorem wrap_u64 {m : Nat} (h : m < 18446744073709551616) : IntKind.u64.wrap (m : Int) = (m : Int) := by
  simp [IntKind.wrap, IntKind.bits, IntKind.signed]
  omega
theorem wrap_i64 {m : Nat} (h : m < 9223372036854775808) : IntKind.i64.wrap (m : Int) = (m : Int) := by
  simp [IntKind.wrap, IntKind.bits, IntKind.signed]
  split <;> omega
theorem uint_mod (n : Int) {m : Nat} (hm : 0 < m) (hn : -9223372036854775808 ≤ n ∧ n ≤ 9223372036854775807) : ∃ u q : Nat, IntKind.u64.wrap n = (u : Int) ∧ ((u : Int).tmod (m : Int) = (q : Int)) ∧ q < m := by
  have h : IntKind.u64.wrap n = n % 18446744073709551616 := by simp [IntKind.wrap, IntKind.bits, IntKind.signed]
  obtain ⟨u, hu⟩ : ∃ u : Nat, n % 18446744073709551616 = (u : Int) := ⟨(n % 18446744073709551616).toNat, by omega⟩
  refine ⟨u, u % m, h.trans hu, ?_, Nat.mod_lt _ hm⟩
  rw [Int.tmod_eq_emod_of_nonneg (by omega)]
  omega
theorem uint_vals (n : Int) {m : Nat} (hm : 0 < m) (hm2 : m < 9223372036854775808) (hn : -9223372036854775808 ≤ n ∧ n ≤ 9223372036854775807) : ∃ u q : Nat, q < m ∧ Value.int .u64 (IntKind.u64.wrap n) = Value.int .u64 u ∧ Value.int .u64 (IntKind.u64.wrap (m : Int)) = Value.int .u64 m ∧
    Value.int .u64 ((u : Int).tmod (m : Int)) = Value.int .u64 q ∧ Value.int .i64 (IntKind.i64.wrap (q : Int)) = Value.int .i64 q ∧ Value.int .i64 (wrap64 (q : Int)) = Value.int .i64 q := by
  obtain ⟨u, q, h1, h2, h3⟩ := uint_mod n hm hn
  refine ⟨u, q, h3, by rw [h1], by rw [wrap_u64 (by omega)], by rw [h2], by rw [wrap_i64 (by omega)], ?_⟩
  rw [show wrap64 (q : Int) = q by unfold wrap64; omega]

set_option maxHeartbeats 600000 in
theorem rootCut_walk (v : Rws) (s : St) (n : Int) (more : ByteArray) (w : World) (h : StAt w w.heap.size v s) (hr : Reach v) (hn : -9223372036854775808 ≤ n ∧ n ≤ 9223372036854775807) :
    Calls Try.prog 8 #[v.val s, .int .i64 n, .string more] w fun e w' => e = .returned (.bool true) ∧ Below w.heap.size w w' := by
  have hL := Lib.hid (law23_large v s · hr)
  have hM := Lib.hid (fun W (hb : Below w.heap.size w W) => root_Make v s W (h.to hb))
  have hY := Lib.hid (fun W (hb : Below w.heap.size w W) => root_May v s W (h.to hb))
  have hst := Lib.hid h
  clear h hr
  obtain ⟨k, nn, next, sn, cs, ps⟩ := s
  obtain ⟨A1, n1, c1, A2, n2, c2, A3, n3, c3⟩ := v
  obtain ⟨E, mb, R, hRE, hmb⟩ : ∃ E mb R, makeRes ⟨k, nn, next, sn, cs, ps⟩ = (R, E) ∧ mayState ⟨k, nn, next, sn, cs, ps⟩ = mb := ⟨_, _, _, rfl, rfl⟩
  rw [hRE] at hM
  rw [hmb] at hY
  unfold Rws.val stv at hL hM hY ⊢
  dsimp only at hL hM hY ⊢
  by_cases hml : 5000 < more.size
  · have hg1 : decide ((5000 : Int) < (more.size : Int)) = true := by simp; omega
    go_enter Try.func8, Try.ntmps8
    go_wp2_with fail
    refine (law23_works _).mono ?_
    rintro e w1 ⟨rfl, hb1⟩
    have hz1 := hb1.size
    simp at hz1
    have e1 : Below (w.heap.size + 1) (w.alloc (stBox k nn next A1 n1 c1 A2 n2 c2 A3 n3 c3)) w1 := hb1.mono (by simp)
    have f1 : Below w.heap.size w w1 := (Below.alloc (Below.refl _ _) (by omega) _).trans (e1.mono (by omega))
    obtain ⟨x0, x1, x2, x3, x4, x5⟩ := stBox_cells e1
    go_wp2_with fail
    refine (hL.out _).mono ?_
    cases largeB ⟨A1, n1, c1, A2, n2, c2, A3, n3, c3⟩
    all_goals
      rintro e w2 ⟨rfl, hb2⟩
      have hz2 := hb2.size
      go_wp2_with fail
      refine (law23_works _).mono ?_
      rintro e w3 ⟨rfl, hb3⟩
      go_wp2_with fail
      go_ret
      exact ⟨rfl, f1.trans ((hb2.trans (hb3.mono (by omega))).mono (by omega))⟩
  · have hg1 : decide ((5000 : Int) < (more.size : Int)) = false := by simp; omega
    go_enter Try.func8, Try.ntmps8
    go_wp2_with fail
    refine (law23_works _).mono ?_
    rintro e w1 ⟨rfl, hb1⟩
    have hz1 := hb1.size
    simp at hz1
    have e1 : Below (w.heap.size + 1) (w.alloc (stBox k nn next A1 n1 c1 A2 n2 c2 A3 n3 c3)) w1 := hb1.mono (by simp)
    have f1 : Below w.heap.size w w1 := (Below.alloc (Below.refl _ _) (by omega) _).trans (e1.mono (by omega))
    obtain ⟨x0, x1, x2, x3, x4, x5⟩ := stBox_cells e1
    go_wp2_with fail
    refine (hL.out _).mono ?_
    cases largeB ⟨A1, n1, c1, A2, n2, c2, A3, n3, c3⟩
    · rintro e w2 ⟨rfl, hb2⟩
      have hz2 := hb2.size
      have e2 := e1.trans (hb2.mono (by omega))
      have f2 := f1.trans (hb2.mono (by omega))
      clear x0 x1 x2 x3 x4 x5
      obtain ⟨x0, x1, x2, x3, x4, x5⟩ := stBox_cells e2
      go_wp2_with fail
      refine (hM.out _ f2).mono ?_
      rintro e w3 ⟨rfl, hb3⟩
      have hz3 := hb3.size
      have e3 := e2.trans (hb3.mono (by omega))
      have f3 := f2.trans (hb3.mono (by omega))
      clear x0 x1 x2 x3 x4 x5
      obtain ⟨x0, x1, x2, x3, x4, x5⟩ := stBox_cells e3
      cases mb
      · obtain rfl : E = 4 := by
          unfold makeRes at hRE
          rw [hmb] at hRE
          simp at hRE
          exact hRE.2.symm
        clear hRE hmb
        go_wp2_with fail
        refine (hY.out _ f3).mono ?_
        rintro e w4 ⟨rfl, hb4⟩
        go_wp2_with fail
        go_ret
        exact ⟨rfl, f3.trans (hb4.mono (by omega))⟩
      · obtain ⟨rfl, rfl⟩ : E = 0 ∧ R = str (stB ⟨k, nn, next, sn, cs, ps⟩) := by
          unfold makeRes at hRE
          rw [if_pos hmb] at hRE
          simp at hRE
          exact ⟨hRE.2.symm, hRE.1.symm⟩
        obtain ⟨hs1, hs2⟩ := stB_small hmb
        have hcut : Hid (∀ i, i < (stB ⟨k, nn, next, sn, cs, ps⟩).length → readRes ((stB ⟨k, nn, next, sn, cs, ps⟩).take i) = (stZero, 4)) := fun i hi => readRes_cut hmb hi
        have hmore : Hid (∀ r, r ≠ [] → readRes (stB ⟨k, nn, next, sn, cs, ps⟩ ++ r) = (stZero, 4)) := fun r hr => readRes_more hmb hr
        have hback : Hid (readRes (stB ⟨k, nn, next, sn, cs, ps⟩) = (⟨k, nn, next, sn, cs, ps⟩, 0)) := readRes_back hmb
        clear hRE hM
        replace hmb := Lib.hid hmb
        have hRs : (str (stB ⟨k, nn, next, sn, cs, ps⟩)).size = (stB ⟨k, nn, next, sn, cs, ps⟩).length := str_size _
        generalize stB ⟨k, nn, next, sn, cs, ps⟩ = l at hs1 hs2 hcut hmore hback hRs ⊢
        obtain ⟨u, q, hq, hw1, hw2, hw3, hw4, hw5⟩ := uint_vals n (m := l.length) (by omega) (by omega) hn
        have hne : l ≠ [] := by rintro rfl; simp at hs1
        have hq1 : (q : Int) ≤ (l.length : Int) := Int.ofNat_le.2 (Nat.le_of_lt hq)
        have hq2 : (0 : Int) ≤ (q : Int) := Int.natCast_nonneg q
        go_wp2_with fail
        have ct := read_st (l.take q) w3 (by simp; omega) (hcut.out q hq)
        rw [← extract_str] at ct
        refine ct.mono ?_
        clear ct
        rintro e w4 ⟨⟨B1, m1, d1, B2, m2, d2, B3, m3, d3⟩, rfl, -, -, hb4⟩
        dsimp only [stZero]
        have hz4 := hb4.size
        have hcat := str_addb (l := l) (a := more) rfl (by omega)
        obtain ⟨wa, hwa⟩ : ∃ wa, wa = w4.alloc (.cells #[.int .i64 0, .int .i64 0, .int .i64 0, .slice B1 m1 d1, .slice B2 m2 d2, .slice B3 m3 d3] 28) := ⟨_, rfl⟩
        have hba : Below w4.heap.size w4 wa := by rw [hwa]; exact (Below.refl _ _).alloc (Nat.le_refl _) _
        have hza : wa.heap.size = w4.heap.size + 1 := by rw [hwa]; simp
        have ea := e3.trans ((hb4.trans (hba.mono (by omega))).mono (by omega))
        have fa := f3.trans ((hb4.trans (hba.mono (by omega))).mono (by omega))
        by_cases hm0 : more = ⟨#[]⟩
        · subst hm0
          have hb0 : l ++ bl (⟨#[]⟩ : ByteArray) = l := by simp [bl]
          rw [hb0] at hcat
          have ct := read_st l wa (by omega) hback.out
          replace hcut := Lib.hid hcut
          replace ct := Lib.hid ct
          go_wp2_with fail
          rw [← hwa]
          replace hwa := Lib.hid hwa
          refine ct.out.mono ?_
          clear ct
          rintro e w5 ⟨⟨G1, p1, o1, G2, p2, o2, G3, p3, o3⟩, rfl, hst5, -, hb5⟩
          dsimp only
          have hz5 := hb5.size
          have e5 := ea.trans (hb5.mono (by omega))
          have f5 := fa.trans (hb5.mono (by omega))
          clear x0 x1 x2 x3 x4 x5
          obtain ⟨x0, x1, x2, x3, x4, x5⟩ := stBox_cells e5
          have hl5 : w.heap.size < w5.heap.size := by omega
          have hq5 : Hid (∀ W : World, Below w5.heap.size w5 W → Calls Try.prog 23 #[.agg #[.int .i64 k, .int .i64 nn, .int .i64 next, .slice G1 p1 o1, .slice G2 p2 o2, .slice G3 p3 o3], .agg #[.int .i64 k, .int .i64 nn, .int .i64 next, .slice A1 n1 c1, .slice A2 n2 c2, .slice A3 n3 c3]] W fun e w' => e = .returned (.bool true) ∧ Below W.heap.size W w') := fun W hb => by
            have := root_Same ⟨G1, p1, o1, G2, p2, o2, G3, p3, o3⟩ ⟨A1, n1, c1, A2, n2, c2, A3, n3, c3⟩ ⟨k, nn, next, sn, cs, ps⟩ ⟨k, nn, next, sn, cs, ps⟩ W (hst5.to hb) (hst.out.to (f5.trans (hb.mono (by omega))))
            rwa [sameSt_self] at this
          go_wp2_with fail
          refine (hq5.out _ (by repeat (first | exact Below.refl _ _ | assumption | refine Below.drew ?_ | refine below_drewN ?_ _ | refine Below.alloc ?_ (by first | omega | (simp; try omega)) _ | refine Below.setCell ?_ (by first | omega | (simp; try omega)) _ | (refine Below.trans ?_ (Below.mono (by assumption) (by first | omega | (simp; try omega))))))).mono ?_
          rintro e w6 ⟨rfl, hb6⟩
          go_wp2_with fail
          go_ret
          exact ⟨rfl, (f5.alloc (by omega) _).trans (hb6.mono (by simp; omega))⟩
        · have hm1 : (more.toList == (⟨#[]⟩ : ByteArray).toList) = false := str_ne hm0
          have hm2 : more.toList.isEmpty = false := by
            rw [toList_bl]
            cases h0 : bl more with
            | nil => exact absurd (bl_nil.1 h0) hm0
            | cons a l => rfl
          have ct := read_st (l ++ bl more) wa (by rw [List.length_append, bl_len]; omega) (hmore.out (bl more) (fun h => hm0 (bl_nil.1 h)))
          replace hm0 := Lib.hid hm0
          replace ct := Lib.hid ct
          go_wp2_with fail
          rw [← hwa]
          replace hwa := Lib.hid hwa
          refine ct.out.mono ?_
          clear ct
          rintro e w5 ⟨⟨G1, p1, o1, G2, p2, o2, G3, p3, o3⟩, rfl, -, -, hb5⟩
          dsimp only [stZero]
          have f5 := fa.trans (hb5.mono (by omega))
          go_wp2_with fail
          go_ret
          exact ⟨rfl, f5.alloc f5.size _⟩
    · rintro e w2 ⟨rfl, hb2⟩
      have hz2 := hb2.size
      go_wp2_with fail
      refine (law23_works _).mono ?_
      rintro e w3 ⟨rfl, hb3⟩
      go_wp2_with fail
      go_ret
      exact ⟨rfl, f1.trans ((hb2.trans (hb3.mono (by omega))).mono (by omega))⟩
end Go.Proofs.Ythbmbbbojpdlaaa
