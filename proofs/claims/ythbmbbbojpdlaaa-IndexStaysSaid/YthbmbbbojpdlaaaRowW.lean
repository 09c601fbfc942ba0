/-
  The walk of IndexRow.
-/
import Derived.Test.YthbmbbbojpdlaaaWorksI
import Derived.Test.YthbmbbbojpdlaaaRowL
import Derived.Test.YthbmbbbojpdlaaaIdxB
import Derived.Test.YthbmbbbojpdlaaaSameA
import Derived.Test.YthbmbbbojpdlaaaKrip
import Derived.Deep.DeepCutAuto
namespace Go.Proofs.Ythbmbbbojpdlaaa
open Go.RowKit
attribute [local go_sem ↓] Go.wp_at_zero Go.wp_at_succ

theorem neqSelf (a : Place) (w : World) : (binOp .neq 34 (.agg #[.string a.pack, .int .i64 a.at_, .int .i64 a.len]) (.agg #[.string a.pack, .int .i64 a.at_, .int .i64 a.len])).run Try.prog w = .ok (.bool false) w := by
  have h := eqPlace a a w
  simpa using h
theorem wrap_pred {q q1 : Nat} (h : q1 + 1 = q) (hq : q ≤ 9223372036854775807) : IntKind.i64.wrap ((q : Int) - 1) = (q1 : Int) := by rw [IntKind.wrap_i64]; omega
theorem wrap_two {a b : Int} (ha : 0 ≤ a ∧ a ≤ 32768) (hb : 1 ≤ b ∧ b ≤ 16384) : IntKind.i64.wrap (a + b) = a + b := by rw [IntKind.wrap_i64]; omega
theorem known_next {PL : List ByteArray} {q : Nat} {pk other : ByteArray} (h : PL[q]? = some pk) : decide (other ∈ PL.take (q + 1)) = (decide (other ∈ PL.take q) || decide (other = pk)) := by
  rw [Bool.eq_iff_iff]
  simp only [decide_eq_true_eq, Bool.or_eq_true]
  exact mem_take_succ h other

set_option maxHeartbeats 16000000 in
set_option maxRecDepth 100000 in
theorem indexRow_walk (v : Rws) (s : St) (other : ByteArray) (w : World) (h : StAt w w.heap.size v s) (hr : ReachI v) :
    Calls Try.prog 11 #[v.val s, .string other] w fun e w' => e = .returned (.bool true) ∧ Below w.heap.size w w' := by
  have hL := Lib.hid (law17_large v s · hr)
  have hO := fun pk W hs => index_Of v s pk W hs
  have hF := fun c W hs => index_Find v s c W hs
  have hP := fun W hs => index_Packs v s W hs
  have hst := Lib.hid h
  obtain ⟨k, nn, next, sn, cs, ps⟩ := s
  obtain ⟨V1, v1, q1', V2, v2, q2, V3, v3, q3⟩ := v
  have hM := fun W (hs : StAt W W.heap.size ⟨V1, v1, q1', V2, v2, q2, V3, v3, q3⟩ ⟨k, nn, next, sn, cs, ps⟩) => index_May k nn next V1 v1 q1' V2 v2 q2 V3 v3 q3 cs ps W hs.cs hs.ps hs.ok
  unfold Rws.val stv at hL hO hF hP
  unfold stv at hM
  unfold Rws.val stv
  dsimp only [Place.agg] at hL hO hF hP hM ⊢
  have bs := Lib.hid (BoxAt.new w k nn next (.slice V1 v1 q1') (.slice V2 v2 q2) (.slice V3 v3 q3))
  have fw : Below w.heap.size w (w.alloc (.cells #[.int .i64 k, .int .i64 nn, .int .i64 next, .slice V1 v1 q1', .slice V2 v2 q2, .slice V3 v3 q3] 28)) := (Below.refl _ _).alloc (Nat.le_refl _) _
  have sst := Lib.hid (hst.out.to fw)
  replace hO := Lib.hid hO
  replace hF := Lib.hid hF
  replace hP := Lib.hid hP
  replace hM := Lib.hid hM
  clear h hst hr
  go_enter Try.func11, Try.ntmps11
  go_upto_region 1 with fail
  generalize w.alloc (.cells #[.int .i64 k, .int .i64 nn, .int .i64 next, .slice V1 v1 q1', .slice V2 v2 q2, .slice V3 v3 q3] 28) = w0 at bs fw sst ⊢
  go_wp2_with fail
  refine (law17_works w0).mono ?_
  rintro e w1 ⟨rfl, hb1⟩
  replace bs := Lib.hid (bs.out.below hb1)
  replace sst := Lib.hid (sst.out.to hb1)
  replace fw := fw.trans (hb1.mono fw.size)
  obtain ⟨x0, x1, x2, x3, x4, x5⟩ := bs.out.cells
  go_wp2_with fail
  refine (hL.out w1).mono ?_
  cases largeI ⟨V1, v1, q1', V2, v2, q2, V3, v3, q3⟩
  · rintro e w2 ⟨rfl, hb2⟩
    replace bs := Lib.hid (bs.out.below hb2)
    replace sst := Lib.hid (sst.out.to hb2)
    replace fw := fw.trans (hb2.mono fw.size)
    clear x0 x1 x2 x3 x4 x5
    obtain ⟨x0, x1, x2, x3, x4, x5⟩ := bs.out.cells
    go_wp2_with fail
    refine (hM.out w2 sst.out).mono ?_
    cases hm : mayIdx cs ps
    · rintro e w3 ⟨rfl, hb3⟩
      replace fw := fw.trans (hb3.mono fw.size)
      replace hm := Lib.hid hm
      go_wp2_with fail
      refine (law17_works w3).mono ?_
      rintro e w4 ⟨rfl, hb4⟩
      go_wp2_with fail
      go_ret
      exact ⟨rfl, fw.trans (hb4.mono fw.size)⟩
    rintro e w3 ⟨rfl, hb3⟩
    replace bs := Lib.hid (bs.out.below hb3)
    replace sst := Lib.hid (sst.out.to hb3)
    replace fw := fw.trans (hb3.mono fw.size)
    clear x0 x1 x2 x3 x4 x5
    obtain ⟨x0, x1, x2, x3, x4, x5⟩ := bs.out.cells
    have hpk : packsRes ⟨k, nn, next, sn, cs, ps⟩ = (setS (ps.map Place.pack), 0) := by simp [packsRes, hm]
    rw [hpk] at hP
    replace hm := Lib.hid hm
    clear hpk
    go_wp2_with fail
    refine (hP.out w3 sst.out).mono ?_
    rintro e w4 ⟨u, rfl, ou, hb4⟩
    obtain ⟨PL, hPL⟩ : ∃ x, x = setS (ps.map Place.pack) := ⟨_, rfl⟩
    rw [← hPL] at ou
    obtain ⟨m, hml⟩ : ∃ x, x = PL.length := ⟨_, rfl⟩
    obtain ⟨A5, c5, rfl⟩ : ∃ A c, u = .slice A m c := by obtain ⟨A, c, e⟩ := ou.form; exact ⟨A, c, by rw [e, hml]⟩
    have rK := Lib.hid (ou.row strCell_len)
    replace bs := Lib.hid (bs.out.below hb4)
    replace sst := Lib.hid (sst.out.to hb4)
    replace fw := fw.trans (hb4.mono fw.size)
    have hrise : Hid (RiseS PL) := hPL ▸ setS_rise _
    have hmem : Hid (∀ z, z ∈ PL ↔ z ∈ ps.map Place.pack) := hPL ▸ fun z => setS_mem _ z
    have hmx : m ≤ 9223372036854775807 := rK.out.2.1
    replace hPL := Lib.hid hPL
    replace hml := Lib.hid hml
    clear x0 x1 x2 x3 x4 x5 ou
    go_wp2_with fail
    go_loopw [7, 8] (fun kn i wr => ∃ (q : Nat) (kb : Bool), q ≤ m ∧ i = .int .i64 q ∧ kn = .bool kb ∧ Hid (kb = decide (other ∈ PL.take q)) ∧ Below w4.heap.size w4 wr) (fun _ i _ => m - (intOf i).toNat)
    case atStart => exact ⟨0, false, Nat.zero_le _, rfl, rfl, by simp [Hid], (by repeat (first | exact Below.refl _ _ | assumption | refine Below.drew ?_ | refine below_drewN ?_ _ | refine Below.alloc ?_ (by first | omega | (simp; try omega)) _ | refine Below.setCell ?_ (by first | omega | (simp; try omega)) _ | (refine Below.trans ?_ (Below.mono (by assumption) (by first | omega | (simp; try omega))))))⟩
    case round =>
      obtain ⟨q, kb, hq, rfl, rfl, hkb, hbr⟩ := hrel
      obtain ⟨wq, rfl⟩ : ∃ x : World, x = wr := ⟨_, rfl⟩
      replace bs := Lib.hid (bs.out.below hbr)
      replace sst := Lib.hid (sst.out.to hbr)
      replace rK := Lib.hid (rK.out.to hbr)
      replace fw := fw.trans (hbr.mono fw.size)
      by_cases hlt : q < m
      · have hqi : (q : Int) < (m : Int) := by omega
        obtain ⟨b5, o5, pk, rfl, hb5, hxk, y0⟩ := rK.out.str hlt
        have hin : pk ∈ ps.map Place.pack := (hmem.out pk).1 (List.mem_of_getElem? hxk)
        have hkn := known_next (other := other) hxk
        rw [← hkb.out] at hkn
        replace hkn := Lib.hid hkn
        replace hxk := Lib.hid hxk
        replace hin := Lib.hid hin
        go_upto_region 10 with fail
        go_cut [7] (fun v7 wc => v7 = .bool (decide (other ∈ PL.take (q + 1))) ∧ Below wq.heap.size wq wc)
        case first =>
          cases kb
          · by_cases he : pk = other
            · have h9 := str_eq he
              have hv : Hid (decide (other ∈ PL.take (q + 1)) = true) := by unfold Hid; rw [hkn.out]; simp [he]
              replace he := Lib.hid he
              go_wp2_with fail
              go_meet
              exact ⟨by rw [hv.out], (by repeat (first | exact Below.refl _ _ | assumption | refine Below.drew ?_ | refine below_drewN ?_ _ | refine Below.alloc ?_ (by first | omega | (simp; try omega)) _ | refine Below.setCell ?_ (by first | omega | (simp; try omega)) _ | (refine Below.trans ?_ (Below.mono (by assumption) (by first | omega | (simp; try omega))))))⟩
            · have h9 := str_ne he
              have hv : Hid (decide (other ∈ PL.take (q + 1)) = false) := by unfold Hid; rw [hkn.out]; simp [Ne.symm he]
              replace he := Lib.hid he
              go_wp2_with fail
              go_meet
              exact ⟨by rw [hv.out], (by repeat (first | exact Below.refl _ _ | assumption | refine Below.drew ?_ | refine below_drewN ?_ _ | refine Below.alloc ?_ (by first | omega | (simp; try omega)) _ | refine Below.setCell ?_ (by first | omega | (simp; try omega)) _ | (refine Below.trans ?_ (Below.mono (by assumption) (by first | omega | (simp; try omega))))))⟩
          · have hv : Hid (decide (other ∈ PL.take (q + 1)) = true) := by unfold Hid; rw [hkn.out]; simp
            go_wp2_with fail
            go_meet
            exact ⟨by rw [hv.out], (by repeat (first | exact Below.refl _ _ | assumption | refine Below.drew ?_ | refine below_drewN ?_ _ | refine Below.alloc ?_ (by first | omega | (simp; try omega)) _ | refine Below.setCell ?_ (by first | omega | (simp; try omega)) _ | (refine Below.trans ?_ (Below.mono (by assumption) (by first | omega | (simp; try omega))))))⟩
        case rest =>
        obtain ⟨rfl, hbc⟩ := hcut
        obtain ⟨kb2, hkb2⟩ : ∃ x, x = decide (other ∈ PL.take (q + 1)) := ⟨_, rfl⟩
        rw [← hkb2]
        replace hkb2 := Lib.hid hkb2
        have hin := hin.out
        replace bs := Lib.hid (bs.out.below hbc)
        replace sst := Lib.hid (sst.out.to hbc)
        replace rK := Lib.hid (rK.out.to hbc)
        replace fw := fw.trans (hbc.mono fw.size)
        have hbr' := hbr.trans (hbc.mono hbr.size)
        obtain ⟨wd, rfl⟩ : ∃ x : World, x = wc := ⟨_, rfl⟩
        clear y0
        have y0 := rK.out.strAt hxk.out
        have hb5c : b5 < wd.heap.size := by obtain ⟨b', o', e, hb', _⟩ := rK.out.2.2 (by omega); simp only [Option.some.injEq, Addr.mk.injEq] at e; omega
        obtain ⟨x0, x1, x2, x3, x4, x5⟩ := bs.out.cells
        have lx := bs.out.lt
        go_upto_region 11 with fail
        --R11
        refine region_krip (fun W : World => Below wd.heap.size wd W) (by kernel_rfl) ((Below.refl _ _).drew) ?_
        (refine kF.takeL (i := 0) (v := ?_) rfl (by kernel_rfl) (fun _ _ _ h => h) (Or.inl ⟨by rfl, ?_⟩) ?_
         rotate_left
         · (intro wS hSw; (try dsimp only at hSw); have hcS := fun b o (h : b < wd.heap.size) => hSw.cell (p := ⟨b, o, none⟩) h; go_simp; (try with_reducible rfl))
         try simp only [Act.put, List.setIfInBounds_toArray, List.set_cons_zero, List.set_cons_succ])
        (refine kF.takeL (i := 1) (v := ?_) rfl (by kernel_rfl) (fun _ _ _ h => h) (Or.inl ⟨by rfl, ?_⟩) ?_
         rotate_left
         · (intro wS hSw; (try dsimp only at hSw); have hcS := fun b o (h : b < wd.heap.size) => hSw.cell (p := ⟨b, o, none⟩) h; go_simp; (try with_reducible rfl))
         try simp only [Act.put, List.setIfInBounds_toArray, List.set_cons_zero, List.set_cons_succ])
        (refine kF.takeL (i := 2) (v := ?_) rfl (by kernel_rfl) (fun _ _ _ h => h) (Or.inl ⟨by rfl, ?_⟩) ?_
         rotate_left
         · (intro wS hSw; (try dsimp only at hSw); have hcS := fun b o (h : b < wd.heap.size) => hSw.cell (p := ⟨b, o, none⟩) h; go_simp; (try with_reducible rfl))
         try simp only [Act.put, List.setIfInBounds_toArray, List.set_cons_zero, List.set_cons_succ])
        (refine kF.takeL (i := 3) (v := ?_) rfl (by kernel_rfl) (fun _ _ _ h => h) (Or.inl ⟨by rfl, ?_⟩) ?_
         rotate_left
         · (intro wS hSw; (try dsimp only at hSw); have hcS := fun b o (h : b < wd.heap.size) => hSw.cell (p := ⟨b, o, none⟩) h; go_simp; (try with_reducible rfl))
         try simp only [Act.put, List.setIfInBounds_toArray, List.set_cons_zero, List.set_cons_succ])
        (refine kF.takeL (i := 4) (v := ?_) rfl (by kernel_rfl) (fun _ _ _ h => h) (Or.inl ⟨by rfl, ?_⟩) ?_
         rotate_left
         · (intro wS hSw; (try dsimp only at hSw); have hcS := fun b o (h : b < wd.heap.size) => hSw.cell (p := ⟨b, o, none⟩) h; go_simp; (try with_reducible rfl))
         try simp only [Act.put, List.setIfInBounds_toArray, List.set_cons_zero, List.set_cons_succ])
        (refine kF.lastL (j := 5) rfl (by kernel_rfl) (fun _ _ _ _ _ h => h) (fun _ _ h1 h2 => below_S (Nat.le_refl _) h1 h2) (fun hSk K hK => ?_)
         (go_simp; refine (hO.out pk _ (sst.out.to hSk)).mono ?_; rintro e w5 ⟨u1, u2, D, P, z, rfl, hres, ow1, ow2, hb5w⟩; obtain ⟨L, hL, rfl, rfl, hne, rfl⟩ := ofRes_in hm.out hres hin; obtain ⟨A8, q8, rfl⟩ : ∃ A c, u1 = .slice A L.length c := (by obtain ⟨A, c, e⟩ := ow1.form; exact ⟨A, c, by rw [e, List.length_map]⟩); obtain ⟨A9, q9, rfl⟩ : ∃ A c, u2 = .slice A L.length c := (by obtain ⟨A, c, e⟩ := ow2.form; exact ⟨A, c, by rw [e, List.length_map]⟩); have hSw5 := hSk.trans (hb5w.mono hSk.size))
         refine hK.out _ _ (below_S (Nat.le_refl _) hSk hb5w) ?_
         clear hK K
         try simp only [Act.put, List.setIfInBounds_toArray, List.set_cons_zero, List.set_cons_succ])
        (refine kF.takeL (i := 6) (v := ?_) rfl (by kernel_rfl) (fun _ _ _ h => h) (Or.inl ⟨by rfl, ?_⟩) ?_
         rotate_left
         · (intro wS hSw; (try dsimp only at hSw); have hcS := fun b o (h : b < wd.heap.size) => hSw.cell (p := ⟨b, o, none⟩) h; go_simp; (try with_reducible rfl))
         try simp only [Act.put, List.setIfInBounds_toArray, List.set_cons_zero, List.set_cons_succ])
        (refine kF.takeL (i := 7) (v := ?_) rfl (by kernel_rfl) (fun _ _ _ h => h) (Or.inl ⟨by rfl, ?_⟩) ?_
         rotate_left
         · (intro wS hSw; (try dsimp only at hSw); have hcS := fun b o (h : b < wd.heap.size) => hSw.cell (p := ⟨b, o, none⟩) h; go_simp; (try with_reducible rfl))
         try simp only [Act.put, List.setIfInBounds_toArray, List.set_cons_zero, List.set_cons_succ])
        (refine kF.takeL (i := 8) (v := ?_) rfl (by kernel_rfl) (fun _ _ _ h => h) (Or.inl ⟨by rfl, ?_⟩) ?_
         rotate_left
         · (intro wS hSw; (try dsimp only at hSw); have hcS := fun b o (h : b < wd.heap.size) => hSw.cell (p := ⟨b, o, none⟩) h; go_simp; (try with_reducible rfl))
         try simp only [Act.put, List.setIfInBounds_toArray, List.set_cons_zero, List.set_cons_succ])
        (refine kF.takeL (i := 9) (v := ?_) rfl (by kernel_rfl) (fun _ _ _ h => h) (Or.inl ⟨by rfl, ?_⟩) ?_
         rotate_left
         · (intro wS hSw; (try dsimp only at hSw); have hcS := fun b o (h : b < wd.heap.size) => hSw.cell (p := ⟨b, o, none⟩) h; go_simp; (try with_reducible rfl))
         try simp only [Act.put, List.setIfInBounds_toArray, List.set_cons_zero, List.set_cons_succ])
        (refine kF.takeL (i := 10) (v := ?_) rfl (by kernel_rfl) (fun _ _ _ h => h) (Or.inl ⟨by rfl, ?_⟩) ?_
         rotate_left
         · (intro wS hSw; (try dsimp only at hSw); have hcS := fun b o (h : b < wd.heap.size) => hSw.cell (p := ⟨b, o, none⟩) h; go_simp; (try with_reducible rfl))
         try simp only [Act.put, List.setIfInBounds_toArray, List.set_cons_zero, List.set_cons_succ])
        (refine kF.takeL (i := 11) (v := ?_) rfl (by kernel_rfl) (fun _ _ _ h => h) (Or.inl ⟨by rfl, ?_⟩) ?_
         rotate_left
         · (intro wS hSw; (try dsimp only at hSw); have hcS := fun b o (h : b < wd.heap.size) => hSw.cell (p := ⟨b, o, none⟩) h; go_simp; (try with_reducible rfl))
         try simp only [Act.put, List.setIfInBounds_toArray, List.set_cons_zero, List.set_cons_succ])
        (refine kF.takeL (i := 12) (v := ?_) rfl (by kernel_rfl) (fun _ _ _ h => h) (Or.inl ⟨by rfl, ?_⟩) ?_
         rotate_left
         · (intro wS hSw; (try dsimp only at hSw); have hcS := fun b o (h : b < wd.heap.size) => hSw.cell (p := ⟨b, o, none⟩) h; go_simp; (try with_reducible rfl))
         try simp only [Act.put, List.setIfInBounds_toArray, List.set_cons_zero, List.set_cons_succ])
        refine kF.done (by kernel_rfl) ?_
        --endR11
        replace bs := Lib.hid (bs.out.below hSw5)
        replace sst := Lib.hid (sst.out.to hSw5)
        replace rK := Lib.hid (rK.out.to hSw5)
        replace fw := fw.trans (hSw5.mono fw.size)
        have hbr5 := hbr'.trans (hSw5.mono hbr'.size)
        have rD := Lib.hid (ow1.row strCell_len)
        have rP := Lib.hid (ow2.row Place.cells_len)
        have hL0 : 0 < L.length := List.length_pos_iff.2 hne
        have hLb : L.length ≤ 9223372036854775807 := by have := rD.out.2.1; exact this
        have g0 : ((L.length : Int) == 0) = false := by simp; omega
        have g1 : ((L.length : Int) != (L.length : Int)) = false := by simp
        replace hL := Lib.hid hL
        replace hne := Lib.hid hne
        replace hres := Lib.hid hres
        clear x0 x1 x2 x3 x4 x5 lx y0 hSw5 hSk hb5w ow1 ow2
        have y0 := rK.out.strAt hxk.out
        have hb5d : b5 < w5.heap.size := by obtain ⟨b', o', e, hb', _⟩ := rK.out.2.2 (by omega); simp only [Option.some.injEq, Addr.mk.injEq] at e; omega
        obtain ⟨ln, hln⟩ : ∃ x, x = L.length := ⟨_, rfl⟩
        rw [← hln] at hL0 hLb g0 g1 rD rP ⊢
        replace hln := Lib.hid hln
        go_wp2_with fail
        go_cut [91] (fun v91 wc => v91 = .bool false ∧ Below w5.heap.size w5 wc)
        case first =>
          by_cases hq0 : q = 0
          · have gq : decide ((0 : Int) < (q : Int)) = false := by simp; omega
            have gq' : decide (0 < q) = false := by simp; omega
            replace hq0 := Lib.hid hq0
            --R12a
            refine region_krip (fun W : World => Below w5.heap.size w5 W) (by kernel_rfl) ((Below.refl _ _).drew) ?_
            (refine kF.takeL (i := 0) (v := ?_) rfl (by kernel_rfl) (fun _ _ _ h => h) (Or.inl ⟨by rfl, ?_⟩) ?_
             rotate_left
             · (intro wS hSw; (try dsimp only at hSw); have hcS := fun b o (h : b < w5.heap.size) => hSw.cell (p := ⟨b, o, none⟩) h; go_simp; (try with_reducible rfl))
             try simp only [Act.put, List.setIfInBounds_toArray, List.set_cons_zero, List.set_cons_succ])
            (refine kF.takeL (i := 1) (v := ?_) rfl (by kernel_rfl) (fun _ _ _ h => h) (Or.inl ⟨by rfl, ?_⟩) ?_
             rotate_left
             · (intro wS hSw; (try dsimp only at hSw); have hcS := fun b o (h : b < w5.heap.size) => hSw.cell (p := ⟨b, o, none⟩) h; go_simp; (try with_reducible rfl))
             try simp only [Act.put, List.setIfInBounds_toArray, List.set_cons_zero, List.set_cons_succ])
            (refine kF.takeL (i := 2) (v := ?_) rfl (by kernel_rfl) (fun _ _ _ h => h) (Or.inl ⟨by rfl, ?_⟩) ?_
             rotate_left
             · (intro wS hSw; (try dsimp only at hSw); have hcS := fun b o (h : b < w5.heap.size) => hSw.cell (p := ⟨b, o, none⟩) h; go_simp; (try with_reducible rfl))
             try simp only [Act.put, List.setIfInBounds_toArray, List.set_cons_zero, List.set_cons_succ])
            (refine kF.takeL (i := 3) (v := ?_) rfl (by kernel_rfl) (fun _ _ _ h => h) (Or.inl ⟨by rfl, ?_⟩) ?_
             rotate_left
             · (intro wS hSw; (try dsimp only at hSw); have hcS := fun b o (h : b < w5.heap.size) => hSw.cell (p := ⟨b, o, none⟩) h; go_simp; (try with_reducible rfl))
             try simp only [Act.put, List.setIfInBounds_toArray, List.set_cons_zero, List.set_cons_succ])
            (refine kF.takeL (i := 4) (v := ?_) rfl (by kernel_rfl) (fun _ _ _ h => h) (Or.inl ⟨by rfl, ?_⟩) ?_
             rotate_left
             · (intro wS hSw; (try dsimp only at hSw); have hcS := fun b o (h : b < w5.heap.size) => hSw.cell (p := ⟨b, o, none⟩) h; go_simp; (try with_reducible rfl))
             try simp only [Act.put, List.setIfInBounds_toArray, List.set_cons_zero, List.set_cons_succ])
            (refine kF.takeL (i := 5) (v := ?_) rfl (by kernel_rfl) (fun _ _ _ h => h) (Or.inl ⟨by rfl, ?_⟩) ?_
             rotate_left
             · (intro wS hSw; (try dsimp only at hSw); have hcS := fun b o (h : b < w5.heap.size) => hSw.cell (p := ⟨b, o, none⟩) h; go_simp; (try with_reducible rfl))
             try simp only [Act.put, List.setIfInBounds_toArray, List.set_cons_zero, List.set_cons_succ])
            (refine kF.takeL (i := 6) (v := ?_) rfl (by kernel_rfl) (fun _ _ _ h => h) (Or.inl ⟨by rfl, ?_⟩) ?_
             rotate_left
             · (intro wS hSw; (try dsimp only at hSw); have hcS := fun b o (h : b < w5.heap.size) => hSw.cell (p := ⟨b, o, none⟩) h; go_simp; (try with_reducible rfl))
             try simp only [Act.put, List.setIfInBounds_toArray, List.set_cons_zero, List.set_cons_succ])
            (refine kF.takeL (i := 7) (v := ?_) rfl (by kernel_rfl) (fun _ _ _ h => h) (Or.inl ⟨by rfl, ?_⟩) ?_
             rotate_left
             · (intro wS hSw; (try dsimp only at hSw); have hcS := fun b o (h : b < w5.heap.size) => hSw.cell (p := ⟨b, o, none⟩) h; go_simp; (try with_reducible rfl))
             try simp only [Act.put, List.setIfInBounds_toArray, List.set_cons_zero, List.set_cons_succ])
            (refine kF.takeL (i := 8) (v := ?_) rfl (by kernel_rfl) (fun _ _ _ h => h) (Or.inl ⟨by rfl, ?_⟩) ?_
             rotate_left
             · (intro wS hSw; (try dsimp only at hSw); have hcS := fun b o (h : b < w5.heap.size) => hSw.cell (p := ⟨b, o, none⟩) h; go_simp; (try with_reducible rfl))
             try simp only [Act.put, List.setIfInBounds_toArray, List.set_cons_zero, List.set_cons_succ])
            (refine kF.takeL (i := 9) (v := ?_) rfl (by kernel_rfl) (fun _ _ _ h => h) (Or.inl ⟨by rfl, ?_⟩) ?_
             rotate_left
             · (intro wS hSw; (try dsimp only at hSw); have hcS := fun b o (h : b < w5.heap.size) => hSw.cell (p := ⟨b, o, none⟩) h; go_simp; (try with_reducible rfl))
             try simp only [Act.put, List.setIfInBounds_toArray, List.set_cons_zero, List.set_cons_succ])
            (refine kF.takeL (i := 10) (v := ?_) rfl (by kernel_rfl) (fun _ _ _ h => h) (Or.inl ⟨by rfl, ?_⟩) ?_
             rotate_left
             · (intro wS hSw; (try dsimp only at hSw); have hcS := fun b o (h : b < w5.heap.size) => hSw.cell (p := ⟨b, o, none⟩) h; go_simp; (try with_reducible rfl))
             try simp only [Act.put, List.setIfInBounds_toArray, List.set_cons_zero, List.set_cons_succ])
            (refine kF.takeL (i := 11) (v := ?_) rfl (by kernel_rfl) (fun _ _ _ h => h) (Or.inl ⟨by rfl, ?_⟩) ?_
             rotate_left
             · (intro wS hSw; (try dsimp only at hSw); have hcS := fun b o (h : b < w5.heap.size) => hSw.cell (p := ⟨b, o, none⟩) h; go_simp; (try with_reducible rfl))
             try simp only [Act.put, List.setIfInBounds_toArray, List.set_cons_zero, List.set_cons_succ])
            (refine kF.takeL (i := 12) (v := ?_) rfl (by kernel_rfl) (fun _ _ _ h => h) (Or.inl ⟨by rfl, ?_⟩) ?_
             rotate_left
             · (intro wS hSw; (try dsimp only at hSw); have hcS := fun b o (h : b < w5.heap.size) => hSw.cell (p := ⟨b, o, none⟩) h; go_simp; (try with_reducible rfl))
             try simp only [Act.put, List.setIfInBounds_toArray, List.set_cons_zero, List.set_cons_succ])
            (refine kF.takeL (i := 13) (v := ?_) rfl (by kernel_rfl) (fun _ _ _ h => h) (Or.inl ⟨by rfl, ?_⟩) ?_
             rotate_left
             · (intro wS hSw; (try dsimp only at hSw); have hcS := fun b o (h : b < w5.heap.size) => hSw.cell (p := ⟨b, o, none⟩) h; go_simp; (try with_reducible rfl))
             try simp only [Act.put, List.setIfInBounds_toArray, List.set_cons_zero, List.set_cons_succ])
            (refine kF.takeL (i := 14) (v := ?_) rfl (by kernel_rfl) (fun _ _ _ h => h) (Or.inl ⟨by rfl, ?_⟩) ?_
             rotate_left
             · (intro wS hSw; (try dsimp only at hSw); have hcS := fun b o (h : b < w5.heap.size) => hSw.cell (p := ⟨b, o, none⟩) h; go_simp; (try with_reducible rfl))
             try simp only [Act.put, List.setIfInBounds_toArray, List.set_cons_zero, List.set_cons_succ])
            (refine kF.takeL (i := 15) (v := ?_) rfl (by kernel_rfl) (fun _ _ _ h => h) (Or.inl ⟨by rfl, ?_⟩) ?_
             rotate_left
             · (intro wS hSw; (try dsimp only at hSw); have hcS := fun b o (h : b < w5.heap.size) => hSw.cell (p := ⟨b, o, none⟩) h; go_simp; (try with_reducible rfl))
             try simp only [Act.put, List.setIfInBounds_toArray, List.set_cons_zero, List.set_cons_succ])
            (refine kF.takeL (i := 16) (v := ?_) rfl (by kernel_rfl) (fun _ _ _ h => h) (Or.inl ⟨by rfl, ?_⟩) ?_
             rotate_left
             · (intro wS hSw; (try dsimp only at hSw); have hcS := fun b o (h : b < w5.heap.size) => hSw.cell (p := ⟨b, o, none⟩) h; go_simp; (try with_reducible rfl))
             try simp only [Act.put, List.setIfInBounds_toArray, List.set_cons_zero, List.set_cons_succ])
            (refine kF.takeL (i := 17) (v := ?_) rfl (by kernel_rfl) (fun _ _ _ h => h) (Or.inl ⟨by rfl, ?_⟩) ?_
             rotate_left
             · (intro wS hSw; (try dsimp only at hSw); have hcS := fun b o (h : b < w5.heap.size) => hSw.cell (p := ⟨b, o, none⟩) h; go_simp; (try with_reducible rfl))
             try simp only [Act.put, List.setIfInBounds_toArray, List.set_cons_zero, List.set_cons_succ])
            (refine kF.takeL (i := 18) (v := undef) rfl (by kernel_rfl) (fun _ _ _ h => h) (Or.inr ⟨by rfl, rfl⟩) ?_
             try simp only [Act.put, List.setIfInBounds_toArray, List.set_cons_zero, List.set_cons_succ])
            (refine kF.takeL (i := 19) (v := undef) rfl (by kernel_rfl) (fun _ _ _ h => h) (Or.inr ⟨by rfl, rfl⟩) ?_
             try simp only [Act.put, List.setIfInBounds_toArray, List.set_cons_zero, List.set_cons_succ])
            (refine kF.takeL (i := 20) (v := undef) rfl (by kernel_rfl) (fun _ _ _ h => h) (Or.inr ⟨by rfl, rfl⟩) ?_
             try simp only [Act.put, List.setIfInBounds_toArray, List.set_cons_zero, List.set_cons_succ])
            (refine kF.takeL (i := 21) (v := undef) rfl (by kernel_rfl) (fun _ _ _ h => h) (Or.inr ⟨by rfl, rfl⟩) ?_
             try simp only [Act.put, List.setIfInBounds_toArray, List.set_cons_zero, List.set_cons_succ])
            (refine kF.takeL (i := 22) (v := undef) rfl (by kernel_rfl) (fun _ _ _ h => h) (Or.inr ⟨by rfl, rfl⟩) ?_
             try simp only [Act.put, List.setIfInBounds_toArray, List.set_cons_zero, List.set_cons_succ])
            (refine kF.takeL (i := 23) (v := undef) rfl (by kernel_rfl) (fun _ _ _ h => h) (Or.inr ⟨by rfl, rfl⟩) ?_
             try simp only [Act.put, List.setIfInBounds_toArray, List.set_cons_zero, List.set_cons_succ])
            (refine kF.takeL (i := 24) (v := undef) rfl (by kernel_rfl) (fun _ _ _ h => h) (Or.inr ⟨by rfl, rfl⟩) ?_
             try simp only [Act.put, List.setIfInBounds_toArray, List.set_cons_zero, List.set_cons_succ])
            (refine kF.takeL (i := 25) (v := undef) rfl (by kernel_rfl) (fun _ _ _ h => h) (Or.inr ⟨by rfl, rfl⟩) ?_
             try simp only [Act.put, List.setIfInBounds_toArray, List.set_cons_zero, List.set_cons_succ])
            (refine kF.takeL (i := 26) (v := undef) rfl (by kernel_rfl) (fun _ _ _ h => h) (Or.inr ⟨by rfl, rfl⟩) ?_
             try simp only [Act.put, List.setIfInBounds_toArray, List.set_cons_zero, List.set_cons_succ])
            (refine kF.takeL (i := 27) (v := undef) rfl (by kernel_rfl) (fun _ _ _ h => h) (Or.inr ⟨by rfl, rfl⟩) ?_
             try simp only [Act.put, List.setIfInBounds_toArray, List.set_cons_zero, List.set_cons_succ])
            (refine kF.takeL (i := 28) (v := ?_) rfl (by kernel_rfl) (fun _ _ _ h => h) (Or.inl ⟨by rfl, ?_⟩) ?_
             rotate_left
             · (intro wS hSw; (try dsimp only at hSw); have hcS := fun b o (h : b < w5.heap.size) => hSw.cell (p := ⟨b, o, none⟩) h; go_simp; (try with_reducible rfl))
             try simp only [Act.put, List.setIfInBounds_toArray, List.set_cons_zero, List.set_cons_succ])
            (refine kF.takeL (i := 29) (v := ?_) rfl (by kernel_rfl) (fun _ _ _ h => h) (Or.inl ⟨by rfl, ?_⟩) ?_
             rotate_left
             · (intro wS hSw; (try dsimp only at hSw); have hcS := fun b o (h : b < w5.heap.size) => hSw.cell (p := ⟨b, o, none⟩) h; go_simp; (try with_reducible rfl))
             try simp only [Act.put, List.setIfInBounds_toArray, List.set_cons_zero, List.set_cons_succ])
            refine kF.done (by kernel_rfl) ?_
            --endR12a
            go_wp2_with fail
            go_meet
            exact ⟨rfl, (by repeat (first | exact Below.refl _ _ | assumption | refine Below.drew ?_ | refine below_drewN ?_ _ | refine Below.alloc ?_ (by first | omega | (simp; try omega)) _ | refine Below.setCell ?_ (by first | omega | (simp; try omega)) _ | (refine Below.trans ?_ (Below.mono (by assumption) (by first | omega | (simp; try omega))))))⟩
          · have gq : decide ((0 : Int) < (q : Int)) = true := by simp; omega
            have gq' : decide (0 < q) = true := by simp; omega
            obtain ⟨q1, hq1⟩ : ∃ q1, q1 + 1 = q := ⟨q - 1, by omega⟩
            obtain ⟨pp, hxp⟩ := getElem_some (l := PL) (i := q1) (by have := hml.out; omega)
            have y1 := rK.out.strAt hxp
            have hcmp : sLt pp pk = true := by
              have h1 := List.pairwise_iff_getElem.1 hrise.out q1 q (List.getElem?_eq_some_iff.1 hxp).1 (List.getElem?_eq_some_iff.1 hxk.out).1 (by omega)
              rwa [(List.getElem?_eq_some_iff.1 hxp).2, (List.getElem?_eq_some_iff.1 hxk.out).2] at h1
            have hc1 : Op.bytesLess pk.toList pp.toList = false := sLt_asymm hcmp
            have hc2 := str_ne (Ne.symm (sLt_ne hcmp))
            replace hcmp := Lib.hid hcmp
            have hwr := Lib.hid (wrap_pred hq1 (by omega))
            have hq1m : (q1 : Int) < (m : Int) := by omega
            have hq1n : q1 < m := by omega
            replace hxp := Lib.hid hxp
            replace hq1 := Lib.hid hq1
            replace hq0 := Lib.hid hq0
            --R12b
            refine region_krip (fun W : World => Below w5.heap.size w5 W) (by kernel_rfl) ((Below.refl _ _).drew) ?_
            (refine kF.takeL (i := 0) (v := ?_) rfl (by kernel_rfl) (fun _ _ _ h => h) (Or.inl ⟨by rfl, ?_⟩) ?_
             rotate_left
             · (intro wS hSw; (try dsimp only at hSw); have hcS := fun b o (h : b < w5.heap.size) => hSw.cell (p := ⟨b, o, none⟩) h; go_simp; (try with_reducible rfl))
             try simp only [Act.put, List.setIfInBounds_toArray, List.set_cons_zero, List.set_cons_succ])
            (refine kF.takeL (i := 1) (v := ?_) rfl (by kernel_rfl) (fun _ _ _ h => h) (Or.inl ⟨by rfl, ?_⟩) ?_
             rotate_left
             · (intro wS hSw; (try dsimp only at hSw); have hcS := fun b o (h : b < w5.heap.size) => hSw.cell (p := ⟨b, o, none⟩) h; go_simp; (try with_reducible rfl))
             try simp only [Act.put, List.setIfInBounds_toArray, List.set_cons_zero, List.set_cons_succ])
            (refine kF.takeL (i := 2) (v := ?_) rfl (by kernel_rfl) (fun _ _ _ h => h) (Or.inl ⟨by rfl, ?_⟩) ?_
             rotate_left
             · (intro wS hSw; (try dsimp only at hSw); have hcS := fun b o (h : b < w5.heap.size) => hSw.cell (p := ⟨b, o, none⟩) h; go_simp; (try with_reducible rfl))
             try simp only [Act.put, List.setIfInBounds_toArray, List.set_cons_zero, List.set_cons_succ])
            (refine kF.takeL (i := 3) (v := ?_) rfl (by kernel_rfl) (fun _ _ _ h => h) (Or.inl ⟨by rfl, ?_⟩) ?_
             rotate_left
             · (intro wS hSw; (try dsimp only at hSw); have hcS := fun b o (h : b < w5.heap.size) => hSw.cell (p := ⟨b, o, none⟩) h; go_simp; (try with_reducible rfl))
             try simp only [Act.put, List.setIfInBounds_toArray, List.set_cons_zero, List.set_cons_succ])
            (refine kF.takeL (i := 4) (v := ?_) rfl (by kernel_rfl) (fun _ _ _ h => h) (Or.inl ⟨by rfl, ?_⟩) ?_
             rotate_left
             · (intro wS hSw; (try dsimp only at hSw); have hcS := fun b o (h : b < w5.heap.size) => hSw.cell (p := ⟨b, o, none⟩) h; go_simp; (try with_reducible rfl))
             try simp only [Act.put, List.setIfInBounds_toArray, List.set_cons_zero, List.set_cons_succ])
            (refine kF.takeL (i := 5) (v := ?_) rfl (by kernel_rfl) (fun _ _ _ h => h) (Or.inl ⟨by rfl, ?_⟩) ?_
             rotate_left
             · (intro wS hSw; (try dsimp only at hSw); have hcS := fun b o (h : b < w5.heap.size) => hSw.cell (p := ⟨b, o, none⟩) h; go_simp; (try with_reducible rfl))
             try simp only [Act.put, List.setIfInBounds_toArray, List.set_cons_zero, List.set_cons_succ])
            (refine kF.takeL (i := 6) (v := ?_) rfl (by kernel_rfl) (fun _ _ _ h => h) (Or.inl ⟨by rfl, ?_⟩) ?_
             rotate_left
             · (intro wS hSw; (try dsimp only at hSw); have hcS := fun b o (h : b < w5.heap.size) => hSw.cell (p := ⟨b, o, none⟩) h; go_simp; (try with_reducible rfl))
             try simp only [Act.put, List.setIfInBounds_toArray, List.set_cons_zero, List.set_cons_succ])
            (refine kF.takeL (i := 7) (v := ?_) rfl (by kernel_rfl) (fun _ _ _ h => h) (Or.inl ⟨by rfl, ?_⟩) ?_
             rotate_left
             · (intro wS hSw; (try dsimp only at hSw); have hcS := fun b o (h : b < w5.heap.size) => hSw.cell (p := ⟨b, o, none⟩) h; go_simp; (try with_reducible rfl))
             try simp only [Act.put, List.setIfInBounds_toArray, List.set_cons_zero, List.set_cons_succ])
            (refine kF.takeL (i := 8) (v := ?_) rfl (by kernel_rfl) (fun _ _ _ h => h) (Or.inl ⟨by rfl, ?_⟩) ?_
             rotate_left
             · (intro wS hSw; (try dsimp only at hSw); have hcS := fun b o (h : b < w5.heap.size) => hSw.cell (p := ⟨b, o, none⟩) h; go_simp; (try with_reducible rfl))
             try simp only [Act.put, List.setIfInBounds_toArray, List.set_cons_zero, List.set_cons_succ])
            (refine kF.takeL (i := 9) (v := ?_) rfl (by kernel_rfl) (fun _ _ _ h => h) (Or.inl ⟨by rfl, ?_⟩) ?_
             rotate_left
             · (intro wS hSw; (try dsimp only at hSw); have hcS := fun b o (h : b < w5.heap.size) => hSw.cell (p := ⟨b, o, none⟩) h; go_simp; (try with_reducible rfl))
             try simp only [Act.put, List.setIfInBounds_toArray, List.set_cons_zero, List.set_cons_succ])
            (refine kF.takeL (i := 10) (v := ?_) rfl (by kernel_rfl) (fun _ _ _ h => h) (Or.inl ⟨by rfl, ?_⟩) ?_
             rotate_left
             · (intro wS hSw; (try dsimp only at hSw); have hcS := fun b o (h : b < w5.heap.size) => hSw.cell (p := ⟨b, o, none⟩) h; go_simp; (try with_reducible rfl))
             try simp only [Act.put, List.setIfInBounds_toArray, List.set_cons_zero, List.set_cons_succ])
            (refine kF.takeL (i := 11) (v := ?_) rfl (by kernel_rfl) (fun _ _ _ h => h) (Or.inl ⟨by rfl, ?_⟩) ?_
             rotate_left
             · (intro wS hSw; (try dsimp only at hSw); have hcS := fun b o (h : b < w5.heap.size) => hSw.cell (p := ⟨b, o, none⟩) h; go_simp; (try with_reducible rfl))
             try simp only [Act.put, List.setIfInBounds_toArray, List.set_cons_zero, List.set_cons_succ])
            (refine kF.takeL (i := 12) (v := ?_) rfl (by kernel_rfl) (fun _ _ _ h => h) (Or.inl ⟨by rfl, ?_⟩) ?_
             rotate_left
             · (intro wS hSw; (try dsimp only at hSw); have hcS := fun b o (h : b < w5.heap.size) => hSw.cell (p := ⟨b, o, none⟩) h; go_simp; (try with_reducible rfl))
             try simp only [Act.put, List.setIfInBounds_toArray, List.set_cons_zero, List.set_cons_succ])
            (refine kF.takeL (i := 13) (v := ?_) rfl (by kernel_rfl) (fun _ _ _ h => h) (Or.inl ⟨by rfl, ?_⟩) ?_
             rotate_left
             · (intro wS hSw; (try dsimp only at hSw); have hcS := fun b o (h : b < w5.heap.size) => hSw.cell (p := ⟨b, o, none⟩) h; go_simp; (try with_reducible rfl))
             try simp only [Act.put, List.setIfInBounds_toArray, List.set_cons_zero, List.set_cons_succ])
            (refine kF.takeL (i := 14) (v := ?_) rfl (by kernel_rfl) (fun _ _ _ h => h) (Or.inl ⟨by rfl, ?_⟩) ?_
             rotate_left
             · (intro wS hSw; (try dsimp only at hSw); have hcS := fun b o (h : b < w5.heap.size) => hSw.cell (p := ⟨b, o, none⟩) h; go_simp; (try with_reducible rfl))
             try simp only [Act.put, List.setIfInBounds_toArray, List.set_cons_zero, List.set_cons_succ])
            (refine kF.takeL (i := 15) (v := ?_) rfl (by kernel_rfl) (fun _ _ _ h => h) (Or.inl ⟨by rfl, ?_⟩) ?_
             rotate_left
             · (intro wS hSw; (try dsimp only at hSw); have hcS := fun b o (h : b < w5.heap.size) => hSw.cell (p := ⟨b, o, none⟩) h; go_simp; (try with_reducible rfl))
             try simp only [Act.put, List.setIfInBounds_toArray, List.set_cons_zero, List.set_cons_succ])
            (refine kF.takeL (i := 16) (v := ?_) rfl (by kernel_rfl) (fun _ _ _ h => h) (Or.inl ⟨by rfl, ?_⟩) ?_
             rotate_left
             · (intro wS hSw; (try dsimp only at hSw); have hcS := fun b o (h : b < w5.heap.size) => hSw.cell (p := ⟨b, o, none⟩) h; go_simp; (try with_reducible rfl))
             try simp only [Act.put, List.setIfInBounds_toArray, List.set_cons_zero, List.set_cons_succ])
            (refine kF.takeL (i := 17) (v := ?_) rfl (by kernel_rfl) (fun _ _ _ h => h) (Or.inl ⟨by rfl, ?_⟩) ?_
             rotate_left
             · (intro wS hSw; (try dsimp only at hSw); have hcS := fun b o (h : b < w5.heap.size) => hSw.cell (p := ⟨b, o, none⟩) h; go_simp; (try with_reducible rfl))
             try simp only [Act.put, List.setIfInBounds_toArray, List.set_cons_zero, List.set_cons_succ])
            (refine kF.takeL (i := 18) (v := ?_) rfl (by kernel_rfl) (fun _ _ _ h => h) (Or.inl ⟨by rfl, ?_⟩) ?_
             rotate_left
             · (intro wS hSw; (try dsimp only at hSw); have hcS := fun b o (h : b < w5.heap.size) => hSw.cell (p := ⟨b, o, none⟩) h; go_simp; (try with_reducible rfl))
             try simp only [Act.put, List.setIfInBounds_toArray, List.set_cons_zero, List.set_cons_succ])
            (refine kF.takeL (i := 19) (v := ?_) rfl (by kernel_rfl) (fun _ _ _ h => h) (Or.inl ⟨by rfl, ?_⟩) ?_
             rotate_left
             · (intro wS hSw; (try dsimp only at hSw); have hcS := fun b o (h : b < w5.heap.size) => hSw.cell (p := ⟨b, o, none⟩) h; go_simp; (try with_reducible rfl))
             try simp only [Act.put, List.setIfInBounds_toArray, List.set_cons_zero, List.set_cons_succ])
            (refine kF.takeL (i := 20) (v := ?_) rfl (by kernel_rfl) (fun _ _ _ h => h) (Or.inl ⟨by rfl, ?_⟩) ?_
             rotate_left
             · (intro wS hSw; (try dsimp only at hSw); have hcS := fun b o (h : b < w5.heap.size) => hSw.cell (p := ⟨b, o, none⟩) h; go_simp; (try with_reducible rfl))
             try simp only [Act.put, List.setIfInBounds_toArray, List.set_cons_zero, List.set_cons_succ])
            (refine kF.takeL (i := 21) (v := ?_) rfl (by kernel_rfl) (fun _ _ _ h => h) (Or.inl ⟨by rfl, ?_⟩) ?_
             rotate_left
             · (intro wS hSw; (try dsimp only at hSw); have hcS := fun b o (h : b < w5.heap.size) => hSw.cell (p := ⟨b, o, none⟩) h; go_simp; (try with_reducible rfl))
             try simp only [Act.put, List.setIfInBounds_toArray, List.set_cons_zero, List.set_cons_succ])
            (refine kF.takeL (i := 22) (v := ?_) rfl (by kernel_rfl) (fun _ _ _ h => h) (Or.inl ⟨by rfl, ?_⟩) ?_
             rotate_left
             · (intro wS hSw; (try dsimp only at hSw); have hcS := fun b o (h : b < w5.heap.size) => hSw.cell (p := ⟨b, o, none⟩) h; go_simp; (try with_reducible rfl))
             try simp only [Act.put, List.setIfInBounds_toArray, List.set_cons_zero, List.set_cons_succ])
            (refine kF.takeL (i := 23) (v := ?_) rfl (by kernel_rfl) (fun _ _ _ h => h) (Or.inl ⟨by rfl, ?_⟩) ?_
             rotate_left
             · (intro wS hSw; (try dsimp only at hSw); have hcS := fun b o (h : b < w5.heap.size) => hSw.cell (p := ⟨b, o, none⟩) h; go_simp; (try with_reducible rfl))
             try simp only [Act.put, List.setIfInBounds_toArray, List.set_cons_zero, List.set_cons_succ])
            (refine kF.takeL (i := 24) (v := .int .i64 (q1 : Int)) rfl (by kernel_rfl) (fun _ _ _ h => h) (Or.inl ⟨by rfl, ?_⟩) ?_
             · (intro wS hSw; (try dsimp only at hSw); have hcS := fun b o (h : b < w5.heap.size) => hSw.cell (p := ⟨b, o, none⟩) h; go_simp; (simp only [hwr.out]))
             try simp only [Act.put, List.setIfInBounds_toArray, List.set_cons_zero, List.set_cons_succ])
            (refine kF.takeL (i := 25) (v := ?_) rfl (by kernel_rfl) (fun _ _ _ h => h) (Or.inl ⟨by rfl, ?_⟩) ?_
             rotate_left
             · (intro wS hSw; (try dsimp only at hSw); have hcS := fun b o (h : b < w5.heap.size) => hSw.cell (p := ⟨b, o, none⟩) h; go_simp; (try with_reducible rfl))
             try simp only [Act.put, List.setIfInBounds_toArray, List.set_cons_zero, List.set_cons_succ])
            (refine kF.takeL (i := 26) (v := ?_) rfl (by kernel_rfl) (fun _ _ _ h => h) (Or.inl ⟨by rfl, ?_⟩) ?_
             rotate_left
             · (intro wS hSw; (try dsimp only at hSw); have hcS := fun b o (h : b < w5.heap.size) => hSw.cell (p := ⟨b, o, none⟩) h; go_simp; (try with_reducible rfl))
             try simp only [Act.put, List.setIfInBounds_toArray, List.set_cons_zero, List.set_cons_succ])
            (refine kF.takeL (i := 27) (v := ?_) rfl (by kernel_rfl) (fun _ _ _ h => h) (Or.inl ⟨by rfl, ?_⟩) ?_
             rotate_left
             · (intro wS hSw; (try dsimp only at hSw); have hcS := fun b o (h : b < w5.heap.size) => hSw.cell (p := ⟨b, o, none⟩) h; go_simp; (try with_reducible rfl))
             try simp only [Act.put, List.setIfInBounds_toArray, List.set_cons_zero, List.set_cons_succ])
            (refine kF.takeL (i := 28) (v := ?_) rfl (by kernel_rfl) (fun _ _ _ h => h) (Or.inl ⟨by rfl, ?_⟩) ?_
             rotate_left
             · (intro wS hSw; (try dsimp only at hSw); have hcS := fun b o (h : b < w5.heap.size) => hSw.cell (p := ⟨b, o, none⟩) h; go_simp; (try with_reducible rfl))
             try simp only [Act.put, List.setIfInBounds_toArray, List.set_cons_zero, List.set_cons_succ])
            (refine kF.takeL (i := 29) (v := ?_) rfl (by kernel_rfl) (fun _ _ _ h => h) (Or.inl ⟨by rfl, ?_⟩) ?_
             rotate_left
             · (intro wS hSw; (try dsimp only at hSw); have hcS := fun b o (h : b < w5.heap.size) => hSw.cell (p := ⟨b, o, none⟩) h; go_simp; (try with_reducible rfl))
             try simp only [Act.put, List.setIfInBounds_toArray, List.set_cons_zero, List.set_cons_succ])
            refine kF.done (by kernel_rfl) ?_
            --endR12b
            go_wp2_with fail
            go_meet
            exact ⟨rfl, (by repeat (first | exact Below.refl _ _ | assumption | refine Below.drew ?_ | refine below_drewN ?_ _ | refine Below.alloc ?_ (by first | omega | (simp; try omega)) _ | refine Below.setCell ?_ (by first | omega | (simp; try omega)) _ | (refine Below.trans ?_ (Below.mono (by assumption) (by first | omega | (simp; try omega))))))⟩
        case rest =>
        obtain ⟨rfl, hbe⟩ := hcut
        obtain ⟨we, rfl⟩ : ∃ x : World, x = wc := ⟨_, rfl⟩
        replace bs := Lib.hid (bs.out.below hbe)
        replace sst := Lib.hid (sst.out.to hbe)
        replace rK := Lib.hid (rK.out.to hbe)
        replace rD := Lib.hid (rD.out.to hbe)
        replace rP := Lib.hid (rP.out.to hbe)
        replace fw := fw.trans (hbe.mono fw.size)
        have hbre := hbr5.trans (hbe.mono hbr5.size)
        clear y0
        go_wp2_with fail
        go_loopw [12] (fun i wr => ∃ j : Nat, j ≤ ln ∧ i = .int .i64 j ∧ Below we.heap.size we wr) (fun i _ => ln - (intOf i).toNat)
        case atStart => exact ⟨0, Nat.zero_le _, rfl, Below.refl _ _⟩
        case round =>
          obtain ⟨j, hj, rfl, hbj⟩ := hrel
          obtain ⟨wj, hwj0⟩ : ∃ x : World, x = wr := ⟨_, rfl⟩
          rw [← hwj0] at hbj ⊢
          clear hwj0
          replace bs := Lib.hid (bs.out.below hbj)
          replace sst := Lib.hid (sst.out.to hbj)
          replace rK := Lib.hid (rK.out.to hbj)
          replace rD := Lib.hid (rD.out.to hbj)
          replace rP := Lib.hid (rP.out.to hbj)
          replace fw := fw.trans (hbj.mono fw.size)
          by_cases hjl : j < ln
          · have hji : (j : Int) < (ln : Int) := by omega
            obtain ⟨⟨xc, xp⟩, hx⟩ := getElem_some (l := L) (i := j) (by have := hln.out; omega)
            obtain ⟨hxc, hxp⟩ := stands_map hx
            obtain ⟨hfnd, hpkx⟩ := OfL.find (s := ⟨k, nn, next, sn, cs, ps⟩) hm.out hL.out (List.mem_of_getElem? hx)
            have hbx := OfL.bounds (s := ⟨k, nn, next, sn, cs, ps⟩) hm.out hL.out (List.mem_of_getElem? hx)
            dsimp only at hfnd hpkx hxc hxp hbx
            obtain ⟨b8, o8, hA8, hb8⟩ := rD.out.addrOf hjl
            obtain ⟨b9, o9, hA9, hb9⟩ := rP.out.addrOf hjl
            subst hA8
            subst hA9
            have yD := rD.out.strAt hxc
            obtain ⟨x0, x1, x2, x3, x4, x5⟩ := bs.out.cells
            have lx := bs.out.lt
            replace hx := Lib.hid hx
            replace hxc := Lib.hid hxc
            replace hxp := Lib.hid hxp
            replace hpkx := Lib.hid hpkx
            go_upto_region 17 with fail
            --R17
            refine region_krip (fun W : World => Below wj.heap.size wj W) (by kernel_rfl) ((Below.refl _ _).drew) ?_
            (refine kF.takeL (i := 0) (v := ?_) rfl (by kernel_rfl) (fun _ _ _ h => h) (Or.inl ⟨by rfl, ?_⟩) ?_
             rotate_left
             · (intro wS hSw; (try dsimp only at hSw); have hcS := fun b o (h : b < wj.heap.size) => hSw.cell (p := ⟨b, o, none⟩) h; go_simp; (try with_reducible rfl))
             try simp only [Act.put, List.setIfInBounds_toArray, List.set_cons_zero, List.set_cons_succ])
            (refine kF.takeL (i := 1) (v := ?_) rfl (by kernel_rfl) (fun _ _ _ h => h) (Or.inl ⟨by rfl, ?_⟩) ?_
             rotate_left
             · (intro wS hSw; (try dsimp only at hSw); have hcS := fun b o (h : b < wj.heap.size) => hSw.cell (p := ⟨b, o, none⟩) h; go_simp; (try with_reducible rfl))
             try simp only [Act.put, List.setIfInBounds_toArray, List.set_cons_zero, List.set_cons_succ])
            (refine kF.takeL (i := 2) (v := ?_) rfl (by kernel_rfl) (fun _ _ _ h => h) (Or.inl ⟨by rfl, ?_⟩) ?_
             rotate_left
             · (intro wS hSw; (try dsimp only at hSw); have hcS := fun b o (h : b < wj.heap.size) => hSw.cell (p := ⟨b, o, none⟩) h; go_simp; (try with_reducible rfl))
             try simp only [Act.put, List.setIfInBounds_toArray, List.set_cons_zero, List.set_cons_succ])
            (refine kF.takeL (i := 3) (v := ?_) rfl (by kernel_rfl) (fun _ _ _ h => h) (Or.inl ⟨by rfl, ?_⟩) ?_
             rotate_left
             · (intro wS hSw; (try dsimp only at hSw); have hcS := fun b o (h : b < wj.heap.size) => hSw.cell (p := ⟨b, o, none⟩) h; go_simp; (try with_reducible rfl))
             try simp only [Act.put, List.setIfInBounds_toArray, List.set_cons_zero, List.set_cons_succ])
            (refine kF.takeL (i := 4) (v := ?_) rfl (by kernel_rfl) (fun _ _ _ h => h) (Or.inl ⟨by rfl, ?_⟩) ?_
             rotate_left
             · (intro wS hSw; (try dsimp only at hSw); have hcS := fun b o (h : b < wj.heap.size) => hSw.cell (p := ⟨b, o, none⟩) h; go_simp; (try with_reducible rfl))
             try simp only [Act.put, List.setIfInBounds_toArray, List.set_cons_zero, List.set_cons_succ])
            (refine kF.newL (i := 9) (fun b => .pointer (some ⟨b, 0, none⟩)) (.cells #[.string ⟨#[]⟩, .int .i64 0, .int .i64 0] 34) rfl (by kernel_rfl) (by rfl) ?_ ?_
             · (intro wS; go_simp; (try with_reducible rfl)))
            (refine kF.onlyL (j := 5) rfl (by kernel_rfl) (fun _ _ _ _ _ h => h) (fun _ _ h1 h2 => below_S (Nat.le_refl _) h1 h2) (fun k5 hbk5 hek5 hSk5 K hK => ?_)
             (go_simp; refine (hF.out xc k5 (sst.out.to hSk5)).mono ?_; rw [hfnd]; rintro e w6 ⟨rfl, hb6⟩)
             refine hK.out _ _ (below_S (Nat.le_refl _) hSk5 hb6) (.inr (.inl hb6)) ?_
             clear hK K hek5
             try simp only [Act.put, List.setIfInBounds_toArray, List.set_cons_zero, List.set_cons_succ])
            (refine kF.takeL (i := 6) (v := ?_) rfl (by kernel_rfl) (fun _ _ _ h => h) (Or.inl ⟨by rfl, ?_⟩) ?_
             rotate_left
             · (intro wS hSw; (try dsimp only at hSw); have hcS := fun b o (h : b < wj.heap.size) => hSw.cell (p := ⟨b, o, none⟩) h; go_simp; (try with_reducible rfl))
             try simp only [Act.put, List.setIfInBounds_toArray, List.set_cons_zero, List.set_cons_succ])
            (refine kF.takeL (i := 7) (v := ?_) rfl (by kernel_rfl) (fun _ _ _ h => h) (Or.inl ⟨by rfl, ?_⟩) ?_
             rotate_left
             · (intro wS hSw; (try dsimp only at hSw); have hcS := fun b o (h : b < wj.heap.size) => hSw.cell (p := ⟨b, o, none⟩) h; go_simp; (try with_reducible rfl))
             try simp only [Act.put, List.setIfInBounds_toArray, List.set_cons_zero, List.set_cons_succ])
            (refine kF.takeL (i := 8) (v := ?_) rfl (by kernel_rfl) (fun _ _ _ h => h) (Or.inl ⟨by rfl, ?_⟩) ?_
             rotate_left
             · (intro wS hSw; (try dsimp only at hSw); have hcS := fun b o (h : b < wj.heap.size) => hSw.cell (p := ⟨b, o, none⟩) h; go_simp; (try with_reducible rfl))
             try simp only [Act.put, List.setIfInBounds_toArray, List.set_cons_zero, List.set_cons_succ])
            (refine kF.settleL (by kernel_rfl) (fun _ _ h1 h2 => below_S (Nat.le_refl _) h1 h2) (fun u9 hbu9 hSu9 v hv => ?_)
             obtain ⟨bu9, hBu9, rfl, hxu9⟩ := hv
             try simp only [Act.put, List.setIfInBounds_toArray, List.set_cons_zero, List.set_cons_succ])
            obtain ⟨c0, c1, c2⟩ := PBox.cells (p := Place.zero) hxu9
            have c3 := PBox.frozen (p := Place.zero) hxu9 0
            have c4 := PBox.frozen (p := Place.zero) hxu9 1
            have c5 := PBox.frozen (p := Place.zero) hxu9 2
            (refine kF.lastL (j := 10) rfl (by kernel_rfl) (fun _ _ _ _ _ h => h) (fun _ _ h1 h2 => below_S (Nat.le_refl _) h1 h2) (fun hSk K hK => ?_)
             go_simp
             refine hK.out _ _ (((hSk.setCell (p := ⟨bu9, 0, none⟩) hBu9 _).setCell (p := ⟨bu9, 1, none⟩) hBu9 _).setCell (p := ⟨bu9, 2, none⟩) hBu9 _) ?_
             clear hK K
             try simp only [Act.put, List.setIfInBounds_toArray, List.set_cons_zero, List.set_cons_succ])
            (refine kF.takeL (i := 11) (v := ?_) rfl (by kernel_rfl) (fun _ _ _ h => h) (Or.inl ⟨by rfl, ?_⟩) ?_
             rotate_left
             · (intro wS hSw; (try dsimp only at hSw); have hcS := fun b o (h : b < wj.heap.size) => hSw.cell (p := ⟨b, o, none⟩) h; go_simp; (try with_reducible rfl))
             try simp only [Act.put, List.setIfInBounds_toArray, List.set_cons_zero, List.set_cons_succ])
            refine kF.done (by kernel_rfl) ?_
            have hSy : Below wj.heap.size wj (((u9.setCell ⟨bu9, 0, none⟩ (.string xp.pack)).setCell ⟨bu9, 1, none⟩ (.int .i64 xp.at_)).setCell ⟨bu9, 2, none⟩ (.int .i64 xp.len)) := ((hSu9.setCell (p := ⟨bu9, 0, none⟩) hBu9 _).setCell (p := ⟨bu9, 1, none⟩) hBu9 _).setCell (p := ⟨bu9, 2, none⟩) hBu9 _
            have pbx : Hid (PBox (((u9.setCell ⟨bu9, 0, none⟩ (.string xp.pack)).setCell ⟨bu9, 1, none⟩ (.int .i64 xp.at_)).setCell ⟨bu9, 2, none⟩ (.int .i64 xp.len)) bu9 xp) := PBox.set3 (p := Place.zero) hxu9 xp
            generalize ((u9.setCell ⟨bu9, 0, none⟩ (.string xp.pack)).setCell ⟨bu9, 1, none⟩ (.int .i64 xp.at_)).setCell ⟨bu9, 2, none⟩ (.int .i64 xp.len) = wy at hSy pbx ⊢
            clear c0 c1 c2 c3 c4 c5 hxu9 hSu9 hbu9 hBu9
            --endR17
            replace bs := Lib.hid (bs.out.below hSy)
            replace sst := Lib.hid (sst.out.to hSy)
            replace rK := Lib.hid (rK.out.to hSy)
            replace rD := Lib.hid (rD.out.to hSy)
            replace rP := Lib.hid (rP.out.to hSy)
            replace fw := fw.trans (hSy.mono fw.size)
            have hby := hbj.trans (hSy.mono hbj.size)
            clear x0 x1 x2 x3 x4 x5 lx yD hSk hb6
            obtain ⟨z0, z1, z2⟩ := pbx.out.cells
            have lz := pbx.out.lt
            obtain ⟨p0, p1, p2⟩ := rP.out.placeAt hxp.out
            have y0 := rK.out.strAt hxk.out
            have hb9y : b9 < wy.heap.size := by obtain ⟨b', o', e, hb', _⟩ := rP.out.2.2 (by omega); simp only [Option.some.injEq, Addr.mk.injEq] at e; omega
            have hb5y : b5 < wy.heap.size := by obtain ⟨b', o', e, hb', _⟩ := rK.out.2.2 (by omega); simp only [Option.some.injEq, Addr.mk.injEq] at e; omega
            have ne1 := neqSelf xp
            have ne2 := str_eq hpkx.out
            replace hfnd := Lib.hid hfnd
            go_wp2_with fail
            go_cut [150] (fun v150 wc => v150 = .bool false ∧ Below wy.heap.size wy wc)
            case first =>
              by_cases hj0 : j = 0
              · have gj : decide ((0 : Int) < (j : Int)) = false := by simp; omega
                have gj' : decide (0 < j) = false := by simp; omega
                replace hj0 := Lib.hid hj0
                --R18a
                refine region_krip (fun W : World => Below wy.heap.size wy W) (by kernel_rfl) ((Below.refl _ _).drew) ?_
                (refine kF.takeL (i := 0) (v := ?_) rfl (by kernel_rfl) (fun _ _ _ h => h) (Or.inl ⟨by rfl, ?_⟩) ?_
                 rotate_left
                 · (intro wS hSw; (try dsimp only at hSw); have hcS := fun b o (h : b < wy.heap.size) => hSw.cell (p := ⟨b, o, none⟩) h; go_simp; (try with_reducible rfl))
                 try simp only [Act.put, List.setIfInBounds_toArray, List.set_cons_zero, List.set_cons_succ])
                (refine kF.takeL (i := 1) (v := ?_) rfl (by kernel_rfl) (fun _ _ _ h => h) (Or.inl ⟨by rfl, ?_⟩) ?_
                 rotate_left
                 · (intro wS hSw; (try dsimp only at hSw); have hcS := fun b o (h : b < wy.heap.size) => hSw.cell (p := ⟨b, o, none⟩) h; go_simp; (try with_reducible rfl))
                 try simp only [Act.put, List.setIfInBounds_toArray, List.set_cons_zero, List.set_cons_succ])
                (refine kF.takeL (i := 2) (v := ?_) rfl (by kernel_rfl) (fun _ _ _ h => h) (Or.inl ⟨by rfl, ?_⟩) ?_
                 rotate_left
                 · (intro wS hSw; (try dsimp only at hSw); have hcS := fun b o (h : b < wy.heap.size) => hSw.cell (p := ⟨b, o, none⟩) h; go_simp; (try with_reducible rfl))
                 try simp only [Act.put, List.setIfInBounds_toArray, List.set_cons_zero, List.set_cons_succ])
                (refine kF.takeL (i := 3) (v := ?_) rfl (by kernel_rfl) (fun _ _ _ h => h) (Or.inl ⟨by rfl, ?_⟩) ?_
                 rotate_left
                 · (intro wS hSw; (try dsimp only at hSw); have hcS := fun b o (h : b < wy.heap.size) => hSw.cell (p := ⟨b, o, none⟩) h; go_simp; (try with_reducible rfl))
                 try simp only [Act.put, List.setIfInBounds_toArray, List.set_cons_zero, List.set_cons_succ])
                (refine kF.takeL (i := 4) (v := ?_) rfl (by kernel_rfl) (fun _ _ _ h => h) (Or.inl ⟨by rfl, ?_⟩) ?_
                 rotate_left
                 · (intro wS hSw; (try dsimp only at hSw); have hcS := fun b o (h : b < wy.heap.size) => hSw.cell (p := ⟨b, o, none⟩) h; go_simp; (try with_reducible rfl))
                 try simp only [Act.put, List.setIfInBounds_toArray, List.set_cons_zero, List.set_cons_succ])
                (refine kF.takeL (i := 5) (v := ?_) rfl (by kernel_rfl) (fun _ _ _ h => h) (Or.inl ⟨by rfl, ?_⟩) ?_
                 rotate_left
                 · (intro wS hSw; (try dsimp only at hSw); have hcS := fun b o (h : b < wy.heap.size) => hSw.cell (p := ⟨b, o, none⟩) h; go_simp; (try with_reducible rfl))
                 try simp only [Act.put, List.setIfInBounds_toArray, List.set_cons_zero, List.set_cons_succ])
                (refine kF.takeL (i := 6) (v := ?_) rfl (by kernel_rfl) (fun _ _ _ h => h) (Or.inl ⟨by rfl, ?_⟩) ?_
                 rotate_left
                 · (intro wS hSw; (try dsimp only at hSw); have hcS := fun b o (h : b < wy.heap.size) => hSw.cell (p := ⟨b, o, none⟩) h; go_simp; (try with_reducible rfl))
                 try simp only [Act.put, List.setIfInBounds_toArray, List.set_cons_zero, List.set_cons_succ])
                (refine kF.takeL (i := 7) (v := ?_) rfl (by kernel_rfl) (fun _ _ _ h => h) (Or.inl ⟨by rfl, ?_⟩) ?_
                 rotate_left
                 · (intro wS hSw; (try dsimp only at hSw); have hcS := fun b o (h : b < wy.heap.size) => hSw.cell (p := ⟨b, o, none⟩) h; go_simp; (try with_reducible rfl))
                 try simp only [Act.put, List.setIfInBounds_toArray, List.set_cons_zero, List.set_cons_succ])
                (refine kF.takeL (i := 8) (v := ?_) rfl (by kernel_rfl) (fun _ _ _ h => h) (Or.inl ⟨by rfl, ?_⟩) ?_
                 rotate_left
                 · (intro wS hSw; (try dsimp only at hSw); have hcS := fun b o (h : b < wy.heap.size) => hSw.cell (p := ⟨b, o, none⟩) h; go_simp; (try with_reducible rfl))
                 try simp only [Act.put, List.setIfInBounds_toArray, List.set_cons_zero, List.set_cons_succ])
                (refine kF.takeL (i := 9) (v := ?_) rfl (by kernel_rfl) (fun _ _ _ h => h) (Or.inl ⟨by rfl, ?_⟩) ?_
                 rotate_left
                 · (intro wS hSw; (try dsimp only at hSw); have hcS := fun b o (h : b < wy.heap.size) => hSw.cell (p := ⟨b, o, none⟩) h; go_simp; (try with_reducible rfl))
                 try simp only [Act.put, List.setIfInBounds_toArray, List.set_cons_zero, List.set_cons_succ])
                (refine kF.takeL (i := 10) (v := ?_) rfl (by kernel_rfl) (fun _ _ _ h => h) (Or.inl ⟨by rfl, ?_⟩) ?_
                 rotate_left
                 · (intro wS hSw; (try dsimp only at hSw); have hcS := fun b o (h : b < wy.heap.size) => hSw.cell (p := ⟨b, o, none⟩) h; go_simp; (try with_reducible rfl))
                 try simp only [Act.put, List.setIfInBounds_toArray, List.set_cons_zero, List.set_cons_succ])
                (refine kF.takeL (i := 11) (v := ?_) rfl (by kernel_rfl) (fun _ _ _ h => h) (Or.inl ⟨by rfl, ?_⟩) ?_
                 rotate_left
                 · (intro wS hSw; (try dsimp only at hSw); have hcS := fun b o (h : b < wy.heap.size) => hSw.cell (p := ⟨b, o, none⟩) h; go_simp; (try with_reducible rfl))
                 try simp only [Act.put, List.setIfInBounds_toArray, List.set_cons_zero, List.set_cons_succ])
                (refine kF.takeL (i := 12) (v := ?_) rfl (by kernel_rfl) (fun _ _ _ h => h) (Or.inl ⟨by rfl, ?_⟩) ?_
                 rotate_left
                 · (intro wS hSw; (try dsimp only at hSw); have hcS := fun b o (h : b < wy.heap.size) => hSw.cell (p := ⟨b, o, none⟩) h; go_simp; (try with_reducible rfl))
                 try simp only [Act.put, List.setIfInBounds_toArray, List.set_cons_zero, List.set_cons_succ])
                (refine kF.takeL (i := 13) (v := ?_) rfl (by kernel_rfl) (fun _ _ _ h => h) (Or.inl ⟨by rfl, ?_⟩) ?_
                 rotate_left
                 · (intro wS hSw; (try dsimp only at hSw); have hcS := fun b o (h : b < wy.heap.size) => hSw.cell (p := ⟨b, o, none⟩) h; go_simp; (try with_reducible rfl))
                 try simp only [Act.put, List.setIfInBounds_toArray, List.set_cons_zero, List.set_cons_succ])
                (refine kF.takeL (i := 14) (v := ?_) rfl (by kernel_rfl) (fun _ _ _ h => h) (Or.inl ⟨by rfl, ?_⟩) ?_
                 rotate_left
                 · (intro wS hSw; (try dsimp only at hSw); have hcS := fun b o (h : b < wy.heap.size) => hSw.cell (p := ⟨b, o, none⟩) h; go_simp; (try with_reducible rfl))
                 try simp only [Act.put, List.setIfInBounds_toArray, List.set_cons_zero, List.set_cons_succ])
                (refine kF.takeL (i := 15) (v := ?_) rfl (by kernel_rfl) (fun _ _ _ h => h) (Or.inl ⟨by rfl, ?_⟩) ?_
                 rotate_left
                 · (intro wS hSw; (try dsimp only at hSw); have hcS := fun b o (h : b < wy.heap.size) => hSw.cell (p := ⟨b, o, none⟩) h; go_simp; (try with_reducible rfl))
                 try simp only [Act.put, List.setIfInBounds_toArray, List.set_cons_zero, List.set_cons_succ])
                (refine kF.takeL (i := 16) (v := ?_) rfl (by kernel_rfl) (fun _ _ _ h => h) (Or.inl ⟨by rfl, ?_⟩) ?_
                 rotate_left
                 · (intro wS hSw; (try dsimp only at hSw); have hcS := fun b o (h : b < wy.heap.size) => hSw.cell (p := ⟨b, o, none⟩) h; go_simp; (try with_reducible rfl))
                 try simp only [Act.put, List.setIfInBounds_toArray, List.set_cons_zero, List.set_cons_succ])
                (refine kF.takeL (i := 17) (v := ?_) rfl (by kernel_rfl) (fun _ _ _ h => h) (Or.inl ⟨by rfl, ?_⟩) ?_
                 rotate_left
                 · (intro wS hSw; (try dsimp only at hSw); have hcS := fun b o (h : b < wy.heap.size) => hSw.cell (p := ⟨b, o, none⟩) h; go_simp; (try with_reducible rfl))
                 try simp only [Act.put, List.setIfInBounds_toArray, List.set_cons_zero, List.set_cons_succ])
                (refine kF.takeL (i := 18) (v := ?_) rfl (by kernel_rfl) (fun _ _ _ h => h) (Or.inl ⟨by rfl, ?_⟩) ?_
                 rotate_left
                 · (intro wS hSw; (try dsimp only at hSw); have hcS := fun b o (h : b < wy.heap.size) => hSw.cell (p := ⟨b, o, none⟩) h; go_simp; (try with_reducible rfl))
                 try simp only [Act.put, List.setIfInBounds_toArray, List.set_cons_zero, List.set_cons_succ])
                (refine kF.takeL (i := 19) (v := ?_) rfl (by kernel_rfl) (fun _ _ _ h => h) (Or.inl ⟨by rfl, ?_⟩) ?_
                 rotate_left
                 · (intro wS hSw; (try dsimp only at hSw); have hcS := fun b o (h : b < wy.heap.size) => hSw.cell (p := ⟨b, o, none⟩) h; go_simp; (try with_reducible rfl))
                 try simp only [Act.put, List.setIfInBounds_toArray, List.set_cons_zero, List.set_cons_succ])
                (refine kF.takeL (i := 20) (v := ?_) rfl (by kernel_rfl) (fun _ _ _ h => h) (Or.inl ⟨by rfl, ?_⟩) ?_
                 rotate_left
                 · (intro wS hSw; (try dsimp only at hSw); have hcS := fun b o (h : b < wy.heap.size) => hSw.cell (p := ⟨b, o, none⟩) h; go_simp; (try with_reducible rfl))
                 try simp only [Act.put, List.setIfInBounds_toArray, List.set_cons_zero, List.set_cons_succ])
                (refine kF.takeL (i := 21) (v := ?_) rfl (by kernel_rfl) (fun _ _ _ h => h) (Or.inl ⟨by rfl, ?_⟩) ?_
                 rotate_left
                 · (intro wS hSw; (try dsimp only at hSw); have hcS := fun b o (h : b < wy.heap.size) => hSw.cell (p := ⟨b, o, none⟩) h; go_simp; (try with_reducible rfl))
                 try simp only [Act.put, List.setIfInBounds_toArray, List.set_cons_zero, List.set_cons_succ])
                (refine kF.takeL (i := 22) (v := ?_) rfl (by kernel_rfl) (fun _ _ _ h => h) (Or.inl ⟨by rfl, ?_⟩) ?_
                 rotate_left
                 · (intro wS hSw; (try dsimp only at hSw); have hcS := fun b o (h : b < wy.heap.size) => hSw.cell (p := ⟨b, o, none⟩) h; go_simp; (try with_reducible rfl))
                 try simp only [Act.put, List.setIfInBounds_toArray, List.set_cons_zero, List.set_cons_succ])
                (refine kF.takeL (i := 23) (v := undef) rfl (by kernel_rfl) (fun _ _ _ h => h) (Or.inr ⟨by rfl, rfl⟩) ?_
                 try simp only [Act.put, List.setIfInBounds_toArray, List.set_cons_zero, List.set_cons_succ])
                (refine kF.takeL (i := 24) (v := undef) rfl (by kernel_rfl) (fun _ _ _ h => h) (Or.inr ⟨by rfl, rfl⟩) ?_
                 try simp only [Act.put, List.setIfInBounds_toArray, List.set_cons_zero, List.set_cons_succ])
                (refine kF.takeL (i := 25) (v := undef) rfl (by kernel_rfl) (fun _ _ _ h => h) (Or.inr ⟨by rfl, rfl⟩) ?_
                 try simp only [Act.put, List.setIfInBounds_toArray, List.set_cons_zero, List.set_cons_succ])
                (refine kF.takeL (i := 26) (v := undef) rfl (by kernel_rfl) (fun _ _ _ h => h) (Or.inr ⟨by rfl, rfl⟩) ?_
                 try simp only [Act.put, List.setIfInBounds_toArray, List.set_cons_zero, List.set_cons_succ])
                (refine kF.takeL (i := 27) (v := undef) rfl (by kernel_rfl) (fun _ _ _ h => h) (Or.inr ⟨by rfl, rfl⟩) ?_
                 try simp only [Act.put, List.setIfInBounds_toArray, List.set_cons_zero, List.set_cons_succ])
                (refine kF.takeL (i := 28) (v := undef) rfl (by kernel_rfl) (fun _ _ _ h => h) (Or.inr ⟨by rfl, rfl⟩) ?_
                 try simp only [Act.put, List.setIfInBounds_toArray, List.set_cons_zero, List.set_cons_succ])
                (refine kF.takeL (i := 29) (v := undef) rfl (by kernel_rfl) (fun _ _ _ h => h) (Or.inr ⟨by rfl, rfl⟩) ?_
                 try simp only [Act.put, List.setIfInBounds_toArray, List.set_cons_zero, List.set_cons_succ])
                (refine kF.takeL (i := 30) (v := undef) rfl (by kernel_rfl) (fun _ _ _ h => h) (Or.inr ⟨by rfl, rfl⟩) ?_
                 try simp only [Act.put, List.setIfInBounds_toArray, List.set_cons_zero, List.set_cons_succ])
                (refine kF.takeL (i := 31) (v := undef) rfl (by kernel_rfl) (fun _ _ _ h => h) (Or.inr ⟨by rfl, rfl⟩) ?_
                 try simp only [Act.put, List.setIfInBounds_toArray, List.set_cons_zero, List.set_cons_succ])
                (refine kF.takeL (i := 32) (v := undef) rfl (by kernel_rfl) (fun _ _ _ h => h) (Or.inr ⟨by rfl, rfl⟩) ?_
                 try simp only [Act.put, List.setIfInBounds_toArray, List.set_cons_zero, List.set_cons_succ])
                (refine kF.takeL (i := 33) (v := undef) rfl (by kernel_rfl) (fun _ _ _ h => h) (Or.inr ⟨by rfl, rfl⟩) ?_
                 try simp only [Act.put, List.setIfInBounds_toArray, List.set_cons_zero, List.set_cons_succ])
                (refine kF.takeL (i := 34) (v := undef) rfl (by kernel_rfl) (fun _ _ _ h => h) (Or.inr ⟨by rfl, rfl⟩) ?_
                 try simp only [Act.put, List.setIfInBounds_toArray, List.set_cons_zero, List.set_cons_succ])
                (refine kF.takeL (i := 35) (v := undef) rfl (by kernel_rfl) (fun _ _ _ h => h) (Or.inr ⟨by rfl, rfl⟩) ?_
                 try simp only [Act.put, List.setIfInBounds_toArray, List.set_cons_zero, List.set_cons_succ])
                (refine kF.takeL (i := 36) (v := undef) rfl (by kernel_rfl) (fun _ _ _ h => h) (Or.inr ⟨by rfl, rfl⟩) ?_
                 try simp only [Act.put, List.setIfInBounds_toArray, List.set_cons_zero, List.set_cons_succ])
                (refine kF.takeL (i := 37) (v := undef) rfl (by kernel_rfl) (fun _ _ _ h => h) (Or.inr ⟨by rfl, rfl⟩) ?_
                 try simp only [Act.put, List.setIfInBounds_toArray, List.set_cons_zero, List.set_cons_succ])
                (refine kF.takeL (i := 38) (v := undef) rfl (by kernel_rfl) (fun _ _ _ h => h) (Or.inr ⟨by rfl, rfl⟩) ?_
                 try simp only [Act.put, List.setIfInBounds_toArray, List.set_cons_zero, List.set_cons_succ])
                (refine kF.takeL (i := 39) (v := undef) rfl (by kernel_rfl) (fun _ _ _ h => h) (Or.inr ⟨by rfl, rfl⟩) ?_
                 try simp only [Act.put, List.setIfInBounds_toArray, List.set_cons_zero, List.set_cons_succ])
                (refine kF.takeL (i := 40) (v := undef) rfl (by kernel_rfl) (fun _ _ _ h => h) (Or.inr ⟨by rfl, rfl⟩) ?_
                 try simp only [Act.put, List.setIfInBounds_toArray, List.set_cons_zero, List.set_cons_succ])
                (refine kF.takeL (i := 41) (v := undef) rfl (by kernel_rfl) (fun _ _ _ h => h) (Or.inr ⟨by rfl, rfl⟩) ?_
                 try simp only [Act.put, List.setIfInBounds_toArray, List.set_cons_zero, List.set_cons_succ])
                (refine kF.takeL (i := 42) (v := ?_) rfl (by kernel_rfl) (fun _ _ _ h => h) (Or.inl ⟨by rfl, ?_⟩) ?_
                 rotate_left
                 · (intro wS hSw; (try dsimp only at hSw); have hcS := fun b o (h : b < wy.heap.size) => hSw.cell (p := ⟨b, o, none⟩) h; go_simp; (try with_reducible rfl))
                 try simp only [Act.put, List.setIfInBounds_toArray, List.set_cons_zero, List.set_cons_succ])
                (refine kF.takeL (i := 43) (v := ?_) rfl (by kernel_rfl) (fun _ _ _ h => h) (Or.inl ⟨by rfl, ?_⟩) ?_
                 rotate_left
                 · (intro wS hSw; (try dsimp only at hSw); have hcS := fun b o (h : b < wy.heap.size) => hSw.cell (p := ⟨b, o, none⟩) h; go_simp; (try with_reducible rfl))
                 try simp only [Act.put, List.setIfInBounds_toArray, List.set_cons_zero, List.set_cons_succ])
                refine kF.done (by kernel_rfl) ?_
                --endR18a
                go_wp2_with fail
                go_meet
                exact ⟨rfl, (by repeat (first | exact Below.refl _ _ | assumption | refine Below.drew ?_ | refine below_drewN ?_ _ | refine Below.alloc ?_ (by first | omega | (simp; try omega)) _ | refine Below.setCell ?_ (by first | omega | (simp; try omega)) _ | (refine Below.trans ?_ (Below.mono (by assumption) (by first | omega | (simp; try omega))))))⟩
              · have gj : decide ((0 : Int) < (j : Int)) = true := by simp; omega
                have gj' : decide (0 < j) = true := by simp; omega
                obtain ⟨j1, hj1⟩ : ∃ j1, j1 + 1 = j := ⟨j - 1, by omega⟩
                obtain ⟨⟨qc, pr⟩, hx1⟩ := getElem_some (l := L) (i := j1) (by have := hln.out; omega)
                have hnx := OfL.next (s := ⟨k, nn, next, sn, cs, ps⟩) hm.out hL.out hx1 (by rw [hj1]; exact hx.out)
                have hbp := OfL.bounds (s := ⟨k, nn, next, sn, cs, ps⟩) hm.out hL.out (List.mem_of_getElem? hx1)
                dsimp only at hnx hbp
                obtain ⟨r0, r1, r2⟩ := rP.out.placeAt (stands_map hx1).2
                dsimp only at r0 r1 r2
                have hwj := Lib.hid (wrap_pred hj1 (by omega))
                have hws := Lib.hid (wrap_two (a := pr.at_) (b := pr.len) ⟨hbp.1, hbp.2.1⟩ ⟨hbp.2.2.1, hbp.2.2.2⟩)
                have hgt : decide (xp.at_ < pr.at_ + pr.len) = false := by simp; omega
                have hj1m : (j1 : Int) < (ln : Int) := by omega
                have hj1n : j1 < ln := by omega
                replace hx1 := Lib.hid hx1
                replace hj1 := Lib.hid hj1
                replace hj0 := Lib.hid hj0
                --R18b
                refine region_krip (fun W : World => Below wy.heap.size wy W) (by kernel_rfl) ((Below.refl _ _).drew) ?_
                (refine kF.takeL (i := 0) (v := ?_) rfl (by kernel_rfl) (fun _ _ _ h => h) (Or.inl ⟨by rfl, ?_⟩) ?_
                 rotate_left
                 · (intro wS hSw; (try dsimp only at hSw); have hcS := fun b o (h : b < wy.heap.size) => hSw.cell (p := ⟨b, o, none⟩) h; go_simp; (try with_reducible rfl))
                 try simp only [Act.put, List.setIfInBounds_toArray, List.set_cons_zero, List.set_cons_succ])
                (refine kF.takeL (i := 1) (v := ?_) rfl (by kernel_rfl) (fun _ _ _ h => h) (Or.inl ⟨by rfl, ?_⟩) ?_
                 rotate_left
                 · (intro wS hSw; (try dsimp only at hSw); have hcS := fun b o (h : b < wy.heap.size) => hSw.cell (p := ⟨b, o, none⟩) h; go_simp; (try with_reducible rfl))
                 try simp only [Act.put, List.setIfInBounds_toArray, List.set_cons_zero, List.set_cons_succ])
                (refine kF.takeL (i := 2) (v := ?_) rfl (by kernel_rfl) (fun _ _ _ h => h) (Or.inl ⟨by rfl, ?_⟩) ?_
                 rotate_left
                 · (intro wS hSw; (try dsimp only at hSw); have hcS := fun b o (h : b < wy.heap.size) => hSw.cell (p := ⟨b, o, none⟩) h; go_simp; (try with_reducible rfl))
                 try simp only [Act.put, List.setIfInBounds_toArray, List.set_cons_zero, List.set_cons_succ])
                (refine kF.takeL (i := 3) (v := ?_) rfl (by kernel_rfl) (fun _ _ _ h => h) (Or.inl ⟨by rfl, ?_⟩) ?_
                 rotate_left
                 · (intro wS hSw; (try dsimp only at hSw); have hcS := fun b o (h : b < wy.heap.size) => hSw.cell (p := ⟨b, o, none⟩) h; go_simp; (try with_reducible rfl))
                 try simp only [Act.put, List.setIfInBounds_toArray, List.set_cons_zero, List.set_cons_succ])
                (refine kF.takeL (i := 4) (v := ?_) rfl (by kernel_rfl) (fun _ _ _ h => h) (Or.inl ⟨by rfl, ?_⟩) ?_
                 rotate_left
                 · (intro wS hSw; (try dsimp only at hSw); have hcS := fun b o (h : b < wy.heap.size) => hSw.cell (p := ⟨b, o, none⟩) h; go_simp; (try with_reducible rfl))
                 try simp only [Act.put, List.setIfInBounds_toArray, List.set_cons_zero, List.set_cons_succ])
                (refine kF.takeL (i := 5) (v := ?_) rfl (by kernel_rfl) (fun _ _ _ h => h) (Or.inl ⟨by rfl, ?_⟩) ?_
                 rotate_left
                 · (intro wS hSw; (try dsimp only at hSw); have hcS := fun b o (h : b < wy.heap.size) => hSw.cell (p := ⟨b, o, none⟩) h; go_simp; (try with_reducible rfl))
                 try simp only [Act.put, List.setIfInBounds_toArray, List.set_cons_zero, List.set_cons_succ])
                (refine kF.takeL (i := 6) (v := ?_) rfl (by kernel_rfl) (fun _ _ _ h => h) (Or.inl ⟨by rfl, ?_⟩) ?_
                 rotate_left
                 · (intro wS hSw; (try dsimp only at hSw); have hcS := fun b o (h : b < wy.heap.size) => hSw.cell (p := ⟨b, o, none⟩) h; go_simp; (try with_reducible rfl))
                 try simp only [Act.put, List.setIfInBounds_toArray, List.set_cons_zero, List.set_cons_succ])
                (refine kF.takeL (i := 7) (v := ?_) rfl (by kernel_rfl) (fun _ _ _ h => h) (Or.inl ⟨by rfl, ?_⟩) ?_
                 rotate_left
                 · (intro wS hSw; (try dsimp only at hSw); have hcS := fun b o (h : b < wy.heap.size) => hSw.cell (p := ⟨b, o, none⟩) h; go_simp; (try with_reducible rfl))
                 try simp only [Act.put, List.setIfInBounds_toArray, List.set_cons_zero, List.set_cons_succ])
                (refine kF.takeL (i := 8) (v := ?_) rfl (by kernel_rfl) (fun _ _ _ h => h) (Or.inl ⟨by rfl, ?_⟩) ?_
                 rotate_left
                 · (intro wS hSw; (try dsimp only at hSw); have hcS := fun b o (h : b < wy.heap.size) => hSw.cell (p := ⟨b, o, none⟩) h; go_simp; (try with_reducible rfl))
                 try simp only [Act.put, List.setIfInBounds_toArray, List.set_cons_zero, List.set_cons_succ])
                (refine kF.takeL (i := 9) (v := ?_) rfl (by kernel_rfl) (fun _ _ _ h => h) (Or.inl ⟨by rfl, ?_⟩) ?_
                 rotate_left
                 · (intro wS hSw; (try dsimp only at hSw); have hcS := fun b o (h : b < wy.heap.size) => hSw.cell (p := ⟨b, o, none⟩) h; go_simp; (try with_reducible rfl))
                 try simp only [Act.put, List.setIfInBounds_toArray, List.set_cons_zero, List.set_cons_succ])
                (refine kF.takeL (i := 10) (v := ?_) rfl (by kernel_rfl) (fun _ _ _ h => h) (Or.inl ⟨by rfl, ?_⟩) ?_
                 rotate_left
                 · (intro wS hSw; (try dsimp only at hSw); have hcS := fun b o (h : b < wy.heap.size) => hSw.cell (p := ⟨b, o, none⟩) h; go_simp; (try with_reducible rfl))
                 try simp only [Act.put, List.setIfInBounds_toArray, List.set_cons_zero, List.set_cons_succ])
                (refine kF.takeL (i := 11) (v := ?_) rfl (by kernel_rfl) (fun _ _ _ h => h) (Or.inl ⟨by rfl, ?_⟩) ?_
                 rotate_left
                 · (intro wS hSw; (try dsimp only at hSw); have hcS := fun b o (h : b < wy.heap.size) => hSw.cell (p := ⟨b, o, none⟩) h; go_simp; (try with_reducible rfl))
                 try simp only [Act.put, List.setIfInBounds_toArray, List.set_cons_zero, List.set_cons_succ])
                (refine kF.takeL (i := 12) (v := ?_) rfl (by kernel_rfl) (fun _ _ _ h => h) (Or.inl ⟨by rfl, ?_⟩) ?_
                 rotate_left
                 · (intro wS hSw; (try dsimp only at hSw); have hcS := fun b o (h : b < wy.heap.size) => hSw.cell (p := ⟨b, o, none⟩) h; go_simp; (try with_reducible rfl))
                 try simp only [Act.put, List.setIfInBounds_toArray, List.set_cons_zero, List.set_cons_succ])
                (refine kF.takeL (i := 13) (v := ?_) rfl (by kernel_rfl) (fun _ _ _ h => h) (Or.inl ⟨by rfl, ?_⟩) ?_
                 rotate_left
                 · (intro wS hSw; (try dsimp only at hSw); have hcS := fun b o (h : b < wy.heap.size) => hSw.cell (p := ⟨b, o, none⟩) h; go_simp; (try with_reducible rfl))
                 try simp only [Act.put, List.setIfInBounds_toArray, List.set_cons_zero, List.set_cons_succ])
                (refine kF.takeL (i := 14) (v := ?_) rfl (by kernel_rfl) (fun _ _ _ h => h) (Or.inl ⟨by rfl, ?_⟩) ?_
                 rotate_left
                 · (intro wS hSw; (try dsimp only at hSw); have hcS := fun b o (h : b < wy.heap.size) => hSw.cell (p := ⟨b, o, none⟩) h; go_simp; (try with_reducible rfl))
                 try simp only [Act.put, List.setIfInBounds_toArray, List.set_cons_zero, List.set_cons_succ])
                (refine kF.takeL (i := 15) (v := ?_) rfl (by kernel_rfl) (fun _ _ _ h => h) (Or.inl ⟨by rfl, ?_⟩) ?_
                 rotate_left
                 · (intro wS hSw; (try dsimp only at hSw); have hcS := fun b o (h : b < wy.heap.size) => hSw.cell (p := ⟨b, o, none⟩) h; go_simp; (try with_reducible rfl))
                 try simp only [Act.put, List.setIfInBounds_toArray, List.set_cons_zero, List.set_cons_succ])
                (refine kF.takeL (i := 16) (v := ?_) rfl (by kernel_rfl) (fun _ _ _ h => h) (Or.inl ⟨by rfl, ?_⟩) ?_
                 rotate_left
                 · (intro wS hSw; (try dsimp only at hSw); have hcS := fun b o (h : b < wy.heap.size) => hSw.cell (p := ⟨b, o, none⟩) h; go_simp; (try with_reducible rfl))
                 try simp only [Act.put, List.setIfInBounds_toArray, List.set_cons_zero, List.set_cons_succ])
                (refine kF.takeL (i := 17) (v := ?_) rfl (by kernel_rfl) (fun _ _ _ h => h) (Or.inl ⟨by rfl, ?_⟩) ?_
                 rotate_left
                 · (intro wS hSw; (try dsimp only at hSw); have hcS := fun b o (h : b < wy.heap.size) => hSw.cell (p := ⟨b, o, none⟩) h; go_simp; (try with_reducible rfl))
                 try simp only [Act.put, List.setIfInBounds_toArray, List.set_cons_zero, List.set_cons_succ])
                (refine kF.takeL (i := 18) (v := ?_) rfl (by kernel_rfl) (fun _ _ _ h => h) (Or.inl ⟨by rfl, ?_⟩) ?_
                 rotate_left
                 · (intro wS hSw; (try dsimp only at hSw); have hcS := fun b o (h : b < wy.heap.size) => hSw.cell (p := ⟨b, o, none⟩) h; go_simp; (try with_reducible rfl))
                 try simp only [Act.put, List.setIfInBounds_toArray, List.set_cons_zero, List.set_cons_succ])
                (refine kF.takeL (i := 19) (v := ?_) rfl (by kernel_rfl) (fun _ _ _ h => h) (Or.inl ⟨by rfl, ?_⟩) ?_
                 rotate_left
                 · (intro wS hSw; (try dsimp only at hSw); have hcS := fun b o (h : b < wy.heap.size) => hSw.cell (p := ⟨b, o, none⟩) h; go_simp; (try with_reducible rfl))
                 try simp only [Act.put, List.setIfInBounds_toArray, List.set_cons_zero, List.set_cons_succ])
                (refine kF.takeL (i := 20) (v := ?_) rfl (by kernel_rfl) (fun _ _ _ h => h) (Or.inl ⟨by rfl, ?_⟩) ?_
                 rotate_left
                 · (intro wS hSw; (try dsimp only at hSw); have hcS := fun b o (h : b < wy.heap.size) => hSw.cell (p := ⟨b, o, none⟩) h; go_simp; (try with_reducible rfl))
                 try simp only [Act.put, List.setIfInBounds_toArray, List.set_cons_zero, List.set_cons_succ])
                (refine kF.takeL (i := 21) (v := ?_) rfl (by kernel_rfl) (fun _ _ _ h => h) (Or.inl ⟨by rfl, ?_⟩) ?_
                 rotate_left
                 · (intro wS hSw; (try dsimp only at hSw); have hcS := fun b o (h : b < wy.heap.size) => hSw.cell (p := ⟨b, o, none⟩) h; go_simp; (try with_reducible rfl))
                 try simp only [Act.put, List.setIfInBounds_toArray, List.set_cons_zero, List.set_cons_succ])
                (refine kF.takeL (i := 22) (v := ?_) rfl (by kernel_rfl) (fun _ _ _ h => h) (Or.inl ⟨by rfl, ?_⟩) ?_
                 rotate_left
                 · (intro wS hSw; (try dsimp only at hSw); have hcS := fun b o (h : b < wy.heap.size) => hSw.cell (p := ⟨b, o, none⟩) h; go_simp; (try with_reducible rfl))
                 try simp only [Act.put, List.setIfInBounds_toArray, List.set_cons_zero, List.set_cons_succ])
                (refine kF.takeL (i := 23) (v := ?_) rfl (by kernel_rfl) (fun _ _ _ h => h) (Or.inl ⟨by rfl, ?_⟩) ?_
                 rotate_left
                 · (intro wS hSw; (try dsimp only at hSw); have hcS := fun b o (h : b < wy.heap.size) => hSw.cell (p := ⟨b, o, none⟩) h; go_simp; (try with_reducible rfl))
                 try simp only [Act.put, List.setIfInBounds_toArray, List.set_cons_zero, List.set_cons_succ])
                (refine kF.takeL (i := 24) (v := ?_) rfl (by kernel_rfl) (fun _ _ _ h => h) (Or.inl ⟨by rfl, ?_⟩) ?_
                 rotate_left
                 · (intro wS hSw; (try dsimp only at hSw); have hcS := fun b o (h : b < wy.heap.size) => hSw.cell (p := ⟨b, o, none⟩) h; go_simp; (try with_reducible rfl))
                 try simp only [Act.put, List.setIfInBounds_toArray, List.set_cons_zero, List.set_cons_succ])
                (refine kF.takeL (i := 25) (v := .int .i64 (j1 : Int)) rfl (by kernel_rfl) (fun _ _ _ h => h) (Or.inl ⟨by rfl, ?_⟩) ?_
                 · (intro wS hSw; (try dsimp only at hSw); have hcS := fun b o (h : b < wy.heap.size) => hSw.cell (p := ⟨b, o, none⟩) h; go_simp; (simp only [hwj.out]))
                 try simp only [Act.put, List.setIfInBounds_toArray, List.set_cons_zero, List.set_cons_succ])
                (refine kF.takeL (i := 26) (v := ?_) rfl (by kernel_rfl) (fun _ _ _ h => h) (Or.inl ⟨by rfl, ?_⟩) ?_
                 rotate_left
                 · (intro wS hSw; (try dsimp only at hSw); have hcS := fun b o (h : b < wy.heap.size) => hSw.cell (p := ⟨b, o, none⟩) h; go_simp; (try with_reducible rfl))
                 try simp only [Act.put, List.setIfInBounds_toArray, List.set_cons_zero, List.set_cons_succ])
                (refine kF.takeL (i := 27) (v := ?_) rfl (by kernel_rfl) (fun _ _ _ h => h) (Or.inl ⟨by rfl, ?_⟩) ?_
                 rotate_left
                 · (intro wS hSw; (try dsimp only at hSw); have hcS := fun b o (h : b < wy.heap.size) => hSw.cell (p := ⟨b, o, none⟩) h; go_simp; (try with_reducible rfl))
                 try simp only [Act.put, List.setIfInBounds_toArray, List.set_cons_zero, List.set_cons_succ])
                (refine kF.takeL (i := 28) (v := ?_) rfl (by kernel_rfl) (fun _ _ _ h => h) (Or.inl ⟨by rfl, ?_⟩) ?_
                 rotate_left
                 · (intro wS hSw; (try dsimp only at hSw); have hcS := fun b o (h : b < wy.heap.size) => hSw.cell (p := ⟨b, o, none⟩) h; go_simp; (try with_reducible rfl))
                 try simp only [Act.put, List.setIfInBounds_toArray, List.set_cons_zero, List.set_cons_succ])
                (refine kF.takeL (i := 29) (v := ?_) rfl (by kernel_rfl) (fun _ _ _ h => h) (Or.inl ⟨by rfl, ?_⟩) ?_
                 rotate_left
                 · (intro wS hSw; (try dsimp only at hSw); have hcS := fun b o (h : b < wy.heap.size) => hSw.cell (p := ⟨b, o, none⟩) h; go_simp; (try with_reducible rfl))
                 try simp only [Act.put, List.setIfInBounds_toArray, List.set_cons_zero, List.set_cons_succ])
                (refine kF.takeL (i := 30) (v := ?_) rfl (by kernel_rfl) (fun _ _ _ h => h) (Or.inl ⟨by rfl, ?_⟩) ?_
                 rotate_left
                 · (intro wS hSw; (try dsimp only at hSw); have hcS := fun b o (h : b < wy.heap.size) => hSw.cell (p := ⟨b, o, none⟩) h; go_simp; (try with_reducible rfl))
                 try simp only [Act.put, List.setIfInBounds_toArray, List.set_cons_zero, List.set_cons_succ])
                (refine kF.takeL (i := 31) (v := .int .i64 (j1 : Int)) rfl (by kernel_rfl) (fun _ _ _ h => h) (Or.inl ⟨by rfl, ?_⟩) ?_
                 · (intro wS hSw; (try dsimp only at hSw); have hcS := fun b o (h : b < wy.heap.size) => hSw.cell (p := ⟨b, o, none⟩) h; go_simp; (simp only [hwj.out]))
                 try simp only [Act.put, List.setIfInBounds_toArray, List.set_cons_zero, List.set_cons_succ])
                (refine kF.takeL (i := 32) (v := ?_) rfl (by kernel_rfl) (fun _ _ _ h => h) (Or.inl ⟨by rfl, ?_⟩) ?_
                 rotate_left
                 · (intro wS hSw; (try dsimp only at hSw); have hcS := fun b o (h : b < wy.heap.size) => hSw.cell (p := ⟨b, o, none⟩) h; go_simp; (try with_reducible rfl))
                 try simp only [Act.put, List.setIfInBounds_toArray, List.set_cons_zero, List.set_cons_succ])
                (refine kF.takeL (i := 33) (v := ?_) rfl (by kernel_rfl) (fun _ _ _ h => h) (Or.inl ⟨by rfl, ?_⟩) ?_
                 rotate_left
                 · (intro wS hSw; (try dsimp only at hSw); have hcS := fun b o (h : b < wy.heap.size) => hSw.cell (p := ⟨b, o, none⟩) h; go_simp; (try with_reducible rfl))
                 try simp only [Act.put, List.setIfInBounds_toArray, List.set_cons_zero, List.set_cons_succ])
                (refine kF.takeL (i := 34) (v := ?_) rfl (by kernel_rfl) (fun _ _ _ h => h) (Or.inl ⟨by rfl, ?_⟩) ?_
                 rotate_left
                 · (intro wS hSw; (try dsimp only at hSw); have hcS := fun b o (h : b < wy.heap.size) => hSw.cell (p := ⟨b, o, none⟩) h; go_simp; (try with_reducible rfl))
                 try simp only [Act.put, List.setIfInBounds_toArray, List.set_cons_zero, List.set_cons_succ])
                (refine kF.takeL (i := 35) (v := .int .i64 (pr.at_ + pr.len)) rfl (by kernel_rfl) (fun _ _ _ h => h) (Or.inl ⟨by rfl, ?_⟩) ?_
                 · (intro wS hSw; (try dsimp only at hSw); have hcS := fun b o (h : b < wy.heap.size) => hSw.cell (p := ⟨b, o, none⟩) h; go_simp; (simp only [hws.out]))
                 try simp only [Act.put, List.setIfInBounds_toArray, List.set_cons_zero, List.set_cons_succ])
                (refine kF.takeL (i := 36) (v := ?_) rfl (by kernel_rfl) (fun _ _ _ h => h) (Or.inl ⟨by rfl, ?_⟩) ?_
                 rotate_left
                 · (intro wS hSw; (try dsimp only at hSw); have hcS := fun b o (h : b < wy.heap.size) => hSw.cell (p := ⟨b, o, none⟩) h; go_simp; (try with_reducible rfl))
                 try simp only [Act.put, List.setIfInBounds_toArray, List.set_cons_zero, List.set_cons_succ])
                (refine kF.takeL (i := 37) (v := ?_) rfl (by kernel_rfl) (fun _ _ _ h => h) (Or.inl ⟨by rfl, ?_⟩) ?_
                 rotate_left
                 · (intro wS hSw; (try dsimp only at hSw); have hcS := fun b o (h : b < wy.heap.size) => hSw.cell (p := ⟨b, o, none⟩) h; go_simp; (try with_reducible rfl))
                 try simp only [Act.put, List.setIfInBounds_toArray, List.set_cons_zero, List.set_cons_succ])
                (refine kF.takeL (i := 38) (v := ?_) rfl (by kernel_rfl) (fun _ _ _ h => h) (Or.inl ⟨by rfl, ?_⟩) ?_
                 rotate_left
                 · (intro wS hSw; (try dsimp only at hSw); have hcS := fun b o (h : b < wy.heap.size) => hSw.cell (p := ⟨b, o, none⟩) h; go_simp; (try with_reducible rfl))
                 try simp only [Act.put, List.setIfInBounds_toArray, List.set_cons_zero, List.set_cons_succ])
                (refine kF.takeL (i := 39) (v := ?_) rfl (by kernel_rfl) (fun _ _ _ h => h) (Or.inl ⟨by rfl, ?_⟩) ?_
                 rotate_left
                 · (intro wS hSw; (try dsimp only at hSw); have hcS := fun b o (h : b < wy.heap.size) => hSw.cell (p := ⟨b, o, none⟩) h; go_simp; (try with_reducible rfl))
                 try simp only [Act.put, List.setIfInBounds_toArray, List.set_cons_zero, List.set_cons_succ])
                (refine kF.takeL (i := 40) (v := ?_) rfl (by kernel_rfl) (fun _ _ _ h => h) (Or.inl ⟨by rfl, ?_⟩) ?_
                 rotate_left
                 · (intro wS hSw; (try dsimp only at hSw); have hcS := fun b o (h : b < wy.heap.size) => hSw.cell (p := ⟨b, o, none⟩) h; go_simp; (try with_reducible rfl))
                 try simp only [Act.put, List.setIfInBounds_toArray, List.set_cons_zero, List.set_cons_succ])
                (refine kF.takeL (i := 41) (v := ?_) rfl (by kernel_rfl) (fun _ _ _ h => h) (Or.inl ⟨by rfl, ?_⟩) ?_
                 rotate_left
                 · (intro wS hSw; (try dsimp only at hSw); have hcS := fun b o (h : b < wy.heap.size) => hSw.cell (p := ⟨b, o, none⟩) h; go_simp; (try with_reducible rfl))
                 try simp only [Act.put, List.setIfInBounds_toArray, List.set_cons_zero, List.set_cons_succ])
                (refine kF.takeL (i := 42) (v := ?_) rfl (by kernel_rfl) (fun _ _ _ h => h) (Or.inl ⟨by rfl, ?_⟩) ?_
                 rotate_left
                 · (intro wS hSw; (try dsimp only at hSw); have hcS := fun b o (h : b < wy.heap.size) => hSw.cell (p := ⟨b, o, none⟩) h; go_simp; (try with_reducible rfl))
                 try simp only [Act.put, List.setIfInBounds_toArray, List.set_cons_zero, List.set_cons_succ])
                (refine kF.takeL (i := 43) (v := ?_) rfl (by kernel_rfl) (fun _ _ _ h => h) (Or.inl ⟨by rfl, ?_⟩) ?_
                 rotate_left
                 · (intro wS hSw; (try dsimp only at hSw); have hcS := fun b o (h : b < wy.heap.size) => hSw.cell (p := ⟨b, o, none⟩) h; go_simp; (try with_reducible rfl))
                 try simp only [Act.put, List.setIfInBounds_toArray, List.set_cons_zero, List.set_cons_succ])
                refine kF.done (by kernel_rfl) ?_
                --endR18b
                go_wp2_with fail
                go_meet
                exact ⟨rfl, (by repeat (first | exact Below.refl _ _ | assumption | refine Below.drew ?_ | refine below_drewN ?_ _ | refine Below.alloc ?_ (by first | omega | (simp; try omega)) _ | refine Below.setCell ?_ (by first | omega | (simp; try omega)) _ | (refine Below.trans ?_ (Below.mono (by assumption) (by first | omega | (simp; try omega))))))⟩
            case rest =>
            obtain ⟨rfl, hbf⟩ := hcut
            clear z0 z1 z2 lz p0 p1 p2 y0 ne1 ne2
            go_wp2_with fail
            go_roundw
            case rel => exact ⟨j + 1, by omega, by go_num, hby.trans (hbf.mono hby.size)⟩
            case measure => simp [intOf]; omega
          · obtain rfl : j = ln := by omega
            go_wp2_with fail
            go_roundw
            case rel => exact ⟨q + 1, kb2, by omega, by go_num, rfl, hkb2, hbre.trans (hbj.mono hbre.size)⟩
            case measure => simp [intOf]; omega
      · obtain rfl : q = m := by omega
        have htk : PL.take q = PL := List.take_of_length_le (by have := hml.out; omega)
        rw [htk] at hkb
        obtain ⟨x0, x1, x2, x3, x4, x5⟩ := bs.out.cells
        have lx := bs.out.lt
        replace htk := Lib.hid htk
        go_wp2_with fail
        refine (hO.out other wq sst.out).mono ?_
        rintro e w5 ⟨u1, u2, D, P, z, rfl, hres, ow1, ow2, hb5w⟩
        replace fw := fw.trans (hb5w.mono fw.size)
        by_cases hin : other ∈ PL
        · obtain ⟨L, hL, rfl, rfl, hne, rfl⟩ := ofRes_in hm.out hres ((hmem.out other).1 hin)
          obtain rfl : kb = true := by rw [hkb.out]; simpa using hin
          replace hin := Lib.hid hin
          replace hne := Lib.hid hne
          clear ow1 ow2 hres
          go_wp2_with fail
          go_ret
          exact ⟨by simp, fw⟩
        · obtain rfl := ofRes_out hm.out hres (fun hh => hin ((hmem.out other).2 hh))
          obtain rfl : kb = false := by rw [hkb.out]; simpa using hin
          replace hin := Lib.hid hin
          clear ow1 ow2 hres
          go_wp2_with fail
          go_ret
          exact ⟨by simp, fw⟩
  · rintro e w2 ⟨rfl, hb2⟩
    replace fw := fw.trans (hb2.mono fw.size)
    go_wp2_with fail
    refine (law17_works w2).mono ?_
    rintro e w3 ⟨rfl, hb3⟩
    go_wp2_with fail
    go_ret
    exact ⟨rfl, fw.trans (hb3.mono fw.size)⟩
end Go.Proofs.Ythbmbbbojpdlaaa
