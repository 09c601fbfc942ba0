/-
  The contract of index.Of.
-/
import Derived.Test.YtdhlmhkabckbaaaGreatDoorPosL
import Derived.Test.YtdhlmhkabckbaaaGreatDoorStA
import Derived.OwnWalk
namespace Go.Proofs.YtdhlmhkabckbaaaGreatDoor
open Go.RowKit
attribute [local go_sem ↓] Go.wp_at_zero Go.wp_at_succ

theorem RowAt.nat {w : World} {B n g : Nat} {l : List Nat} (h : RowAt 1 natCell w B (some ⟨g, 0, none⟩) n l) {i : Nat} (hi : i < n) : ∃ x, l[i]? = some x ∧ w.cell? ⟨g, i, none⟩ = some (.int .i64 x) := by
  obtain ⟨x, hx⟩ := getElem_some (l := l) (i := i) (by have := h.1; omega)
  obtain ⟨b', off', e, _, hc⟩ := h.2.2 (by omega)
  simp only [Option.some.injEq, Addr.mk.injEq] at e
  obtain ⟨rfl, rfl, _⟩ := e
  have := hc i x hx 0 _ rfl
  rw [show 0 + i * 1 + 0 = i by omega] at this
  exact ⟨x, hx, this⟩

set_option maxHeartbeats 2000000 in
set_option maxRecDepth 100000 in
theorem index_Of (v : Rws) (s : St) (pack : ByteArray) (w : World) (h : StAt w w.heap.size v s) :
    Calls Tryz.prog 57 #[v.val s, .string pack] w fun e w' => ∃ u1 u2 D P z, e = .returned (.tuple #[u1, u2, .int .i64 z]) ∧ OfRes s pack D P z ∧ strE.Own w' w.heap.size u1 D ∧ placeE.Own w' w.heap.size u2 P ∧ Below w.heap.size w w' := by
  obtain ⟨k, n, next, sn, cs, ps⟩ := s
  obtain ⟨A1, n1, c1, A2, n2, c2, A3, n3, c3⟩ := v
  obtain ⟨-, h2, h3, hok⟩ := h
  dsimp only at h2 h3 hok
  unfold Rws.val stv
  dsimp only
  have l2 := Lib.hid h2.1
  have l3 := Lib.hid h3.1
  have hmay := fun W (hb : Below w.heap.size w W) => index_May k n next A1 n1 c1 A2 n2 c2 A3 n3 c3 cs ps W (h2.to hb) (h3.to hb) hok
  unfold stv at hmay
  replace hmay := Lib.hid hmay
  have bs := Lib.hid (BoxAt.new w k n next (.slice A1 n1 c1) (.slice A2 n2 c2) (.slice A3 n3 c3))
  clear hok
  cases hm : mayIdx cs ps
  · have hres : Hid (OfRes ⟨k, n, next, sn, cs, ps⟩ pack [] [] 4) := .inl ⟨hm, rfl, rfl, rfl⟩
    rw [hm] at hmay
    replace hm := Lib.hid hm
    go_enter Tryz.func57, Tryz.ntmps57
    go_wp2_with fail
    refine (hmay.out _ (by repeat (first | exact Below.refl _ _ | assumption | refine Below.drew ?_ | refine below_drewN ?_ _ | refine Below.alloc ?_ (by first | omega | (simp; try omega)) _ | refine Below.setCell ?_ (by first | omega | (simp; try omega)) _ | (refine Below.trans ?_ (Below.mono (by assumption) (by first | omega | (simp; try omega))))))).mono ?_
    rintro e w1 ⟨rfl, hb1⟩
    have hz1 := hb1.size
    go_wp2_with fail
    go_ret3
    exact ⟨.slice none 0 0, .slice none 0 0, [], [], 4, rfl, hres.out, Owns.nil_, Owns.nil_, (by repeat (first | exact Below.refl _ _ | assumption | refine Below.drew ?_ | refine below_drewN ?_ _ | refine Below.alloc ?_ (by first | omega | (simp; try omega)) _ | refine Below.setCell ?_ (by first | omega | (simp; try omega)) _ | (refine Below.trans ?_ (Below.mono (by assumption) (by first | omega | (simp; try omega))))))⟩
  · have h400 : n3 ≤ 400 := by have := mayIdx_len hm; have := l3.out; omega
    have hn23 : Hid (n2 = n3) := by have := mayIdx_len hm; have := l3.out; have := l2.out; unfold Hid; omega
    rw [hm] at hmay
    replace hm := Lib.hid hm
    go_enter Tryz.func57, Tryz.ntmps57
    go_wp2_with fail
    refine (hmay.out _ (by repeat (first | exact Below.refl _ _ | assumption | refine Below.drew ?_ | refine below_drewN ?_ _ | refine Below.alloc ?_ (by first | omega | (simp; try omega)) _ | refine Below.setCell ?_ (by first | omega | (simp; try omega)) _ | (refine Below.trans ?_ (Below.mono (by assumption) (by first | omega | (simp; try omega))))))).mono ?_
    rintro e w1 ⟨rfl, hb1⟩
    have hz1 := hb1.size
    simp at hz1
    have hbw1 : Below w.heap.size w w1 := (by repeat (first | exact Below.refl _ _ | assumption | refine Below.drew ?_ | refine below_drewN ?_ _ | refine Below.alloc ?_ (by first | omega | (simp; try omega)) _ | refine Below.setCell ?_ (by first | omega | (simp; try omega)) _ | (refine Below.trans ?_ (Below.mono (by assumption) (by first | omega | (simp; try omega))))))
    have h1 := h3.to hbw1
    have bs1 := bs.out.below hb1
    obtain ⟨x0, x1, x2, x3, x4, x5⟩ := bs1.cells
    replace bs1 := Lib.hid bs1
    clear hb1
    go_wp2_with fail
    clear x0 x1 x2 x3 x4 x5
    go_loopw [7, 8, 9, 18] (fun r _ _ i wr => ∃ j : Nat, j ≤ n3 ∧ i = .int .i64 j ∧ natE.Own wr w1.heap.size r (inPack ps pack j) ∧ Below w1.heap.size w1 wr) (fun _ _ _ i _ => n3 - (intOf i).toNat)
    case atStart => exact ⟨0, Nat.zero_le _, rfl, Owns.nil_, (by repeat (first | exact Below.refl _ _ | assumption | refine Below.drew ?_ | refine below_drewN ?_ _ | refine Below.alloc ?_ (by first | omega | (simp; try omega)) _ | refine Below.setCell ?_ (by first | omega | (simp; try omega)) _ | (refine Below.trans ?_ (Below.mono (by assumption) (by first | omega | (simp; try omega))))))⟩
    case round =>
      obtain ⟨j, hj, rfl, hown, hbr⟩ := hrel
      have hzr := hbr.size
      by_cases hlt : j < n3
      · obtain ⟨b0, off, p, rfl, hb0, hx, q0, q1, q2⟩ := (h1.to hbr).place hlt
        have hlen := inPack_len ps pack j
        by_cases hpk : p.pack = pack
        · have hyes : Hid (inPack ps pack (j + 1) = inPack ps pack j ++ [j]) := inPack_yes hx hpk
          have hq := str_eq hpk
          replace hpk := Lib.hid hpk
          replace hx := Lib.hid hx
          generalize inPack ps pack j = R at hown hyes hlen
          go_wp2_with (at_builtin; go_must (refine Elem.wpList_one natE rfl (.tmp 27) (.tmp 29) rfl w1.heap.size _ _ rfl _ _ j rfl ((hown.alloc _).alloc _) (fun j u hu => by rcases j with _ | _ | _ | j <;> simp [natE, natCell] at hu <;> subst hu <;> go_simp) (by first | omega | (simp; omega)) (by first | omega | (simp; try omega)) ?_); intro v3 w3 hown3 hg3 hat3; have hbb3 : Below w1.heap.size w1 w3 := Below.grownOwn (by repeat (first | exact Below.refl _ _ | assumption | refine Below.drew ?_ | refine below_drewN ?_ _ | refine Below.alloc ?_ (by first | omega | (simp; try omega)) _ | refine Below.setCell ?_ (by first | omega | (simp; try omega)) _ | (refine Below.trans ?_ (Below.mono (by assumption) (by first | omega | (simp; try omega)))))) ((hown.alloc _).alloc _) (Nat.le_refl _) (by first | omega | (simp; try omega)) hg3; have hzz3 := hbb3.size)
          go_roundw
          case rel => exact ⟨j + 1, by omega, by go_num, by rw [hyes.out]; exact hown3, hbb3⟩
          case measure => simp [intOf]; omega
        · have hno : Hid (inPack ps pack (j + 1) = inPack ps pack j) := inPack_no hx hpk
          have hq := str_ne hpk
          replace hpk := Lib.hid hpk
          replace hx := Lib.hid hx
          generalize inPack ps pack j = R at hown hno hlen
          go_wp2_with fail
          go_roundw
          case rel => exact ⟨j + 1, by omega, by go_num, by rw [hno.out]; exact hown.alloc _, (by repeat (first | exact Below.refl _ _ | assumption | refine Below.drew ?_ | refine below_drewN ?_ _ | refine Below.alloc ?_ (by first | omega | (simp; try omega)) _ | refine Below.setCell ?_ (by first | omega | (simp; try omega)) _ | (refine Below.trans ?_ (Below.mono (by assumption) (by first | omega | (simp; try omega))))))⟩
          case measure => simp [intOf]; omega
      · obtain rfl : j = n3 := by omega
        obtain ⟨R, hR⟩ : ∃ R, R = inPack ps pack j := ⟨_, rfl⟩
        rw [← hR] at hown
        have hRl : R.length ≤ j := hR ▸ inPack_len ps pack j
        have hRm : ∀ i ∈ R, i < j := fun i hi => (inPack_mem.1 (hR ▸ hi)).1
        obtain ⟨AR, cR, rfl⟩ := hown.form
        obtain ⟨x0, x1, x2, x3, x4, x5⟩ := (bs1.out.below hbr).cells
        by_cases hR0 : R = []
        · have hres : Hid (OfRes ⟨k, n, next, sn, cs, ps⟩ pack [] [] 5) := .inr ⟨hm.out, [], ofL_of hm.out (l' := []) (by rw [l3.out, ← hR, hR0]) List.Pairwise.nil, rfl, rfl, .inl ⟨rfl, rfl⟩⟩
          have hg0 : R.length = 0 := by rw [hR0]; rfl
          rw [hg0]
          clear hown hRl hRm hR0 hR hg0
          go_wp2_with fail
          go_ret3
          exact ⟨_, _, [], [], 5, rfl, hres.out, Owns.nil_, Owns.nil_, (by repeat (first | exact Below.refl _ _ | assumption | refine Below.drew ?_ | refine below_drewN ?_ _ | refine Below.alloc ?_ (by first | omega | (simp; try omega)) _ | refine Below.setCell ?_ (by first | omega | (simp; try omega)) _ | (refine Below.trans ?_ (Below.mono (by assumption) (by first | omega | (simp; try omega))))))⟩
        · obtain ⟨m, hmR⟩ : ∃ m, m = R.length := ⟨_, rfl⟩
          rw [← hmR] at hRl hown ⊢
          have hpos : 0 < m := by rw [hmR]; exact List.length_pos_iff.2 hR0
          obtain ⟨g, rfl, hgb⟩ : ∃ g, AR = some ⟨g, 0, none⟩ ∧ w1.heap.size ≤ g := by
            rcases hown.2 with ⟨e, h0⟩ | ⟨g, cap, cur, e, hg, _⟩
            · exact absurd (List.length_eq_zero_iff.1 h0) hR0
            · simp only [Value.slice.injEq] at e
              exact ⟨g, e.1, hg⟩
          have hb0 : ((m : Int) == 0) = false := by simp; omega
          have hsort := Lib.hid (fun W (hW : natE.Own W w1.heap.size (.slice (some ⟨g, 0, none⟩) m cR) R) hps hbx h5 => sort_row w1.heap.size g m cR w.heap.size j c3 A3 R ps W hW hRm (by rw [← hmR]; omega) (by omega) hps hbx h5)
          have hh31 := Lib.hid ((h1.below hbr).more hgb)
          have hh21 := Lib.hid ((h2.to hbw1).below hbr)
          replace hown := Lib.hid hown
          replace hRm := Lib.hid hRm
          replace hR0 := Lib.hid hR0
          replace hR := Lib.hid hR
          replace hmR := Lib.hid hmR
          go_wp2_with fail
          refine (hsort.out _ hown.out hh31.out (by omega) x5).mono ?_
          rintro e w2 ⟨rfl, l', hperm, hsorted, hrow, hb2⟩
          have hz2 := hb2.size
          have hb12 : Below w1.heap.size w1 w2 := hbr.trans (hb2.mono hgb)
          have hbw2 : Below w.heap.size w w2 := hbw1.trans (hb12.mono (by omega))
          have bs2 := Lib.hid (bs1.out.below hb12)
          have h31 := h1.to hb12
          have h21 := (h2.to hbw1).to hb12
          obtain ⟨Pr, hPr⟩ : ∃ Pr, Pr = l'.map (pairAt cs ps) := ⟨_, rfl⟩
          have hlen : l'.length = m := hrow.1
          have hL : Hid (OfL cs ps pack Pr) := by unfold Hid; rw [hPr]; exact ofL_of hm.out (by rw [l3.out, ← hR.out]; exact hperm) hsorted
          have hin : Hid (∀ (i x : Nat), l'[i]? = some x → x < j) := fun i x h => hRm.out x (hperm.mem_iff.1 (List.mem_of_getElem? h))
          replace hperm := Lib.hid hperm
          replace hsorted := Lib.hid hsorted
          replace hlen := Lib.hid hlen
          clear hsort hh31 hh21 hown
          have hgg := hb2
          clear hb2 x0 x1 x2 x3 x4 x5
          go_wp2_with fail
          go_loopw [4, 5, 11, 40] (fun v4 v5 _ i wq => ∃ q : Nat, q ≤ m ∧ i = .int .i64 q ∧ Hid (Two w2 wq w2.heap.size v4 v5 ((Pr.take q).map (·.1)) ((Pr.take q).map (·.2)))) (fun _ _ _ i _ => m - (intOf i).toNat)
          case atStart => exact ⟨0, Nat.zero_le _, rfl, ⟨Owns.nil_, Owns.nil_, .inl rfl, (by repeat (first | exact Below.refl _ _ | assumption | refine Below.drew ?_ | refine below_drewN ?_ _ | refine Below.alloc ?_ (by first | omega | (simp; try omega)) _ | refine Below.setCell ?_ (by first | omega | (simp; try omega)) _ | (refine Below.trans ?_ (Below.mono (by assumption) (by first | omega | (simp; try omega))))))⟩⟩
          case round =>
            obtain ⟨q, hq, rfl, hT⟩ := hrel
            have hbq := hT.out.below
            have hzq := hbq.size
            by_cases hlt : q < m
            · obtain ⟨x, hx, hxc⟩ := (hrow.to hbq).nat hlt
              have hxj := hin.out q x hx
              obtain ⟨b3, o3, p, rfl, hb3, hxp, _⟩ := h31.place hxj
              obtain ⟨b2, o2, c, rfl, hb2, hxc2, _⟩ := h21.str (i := x) (by have := l2.out; have := hn23.out; omega)
              obtain ⟨D, hD⟩ : ∃ D, D = (Pr.take q).map (·.1) := ⟨_, rfl⟩
              obtain ⟨P, hP⟩ : ∃ P, P = (Pr.take q).map (·.2) := ⟨_, rfl⟩
              rw [← hD, ← hP] at hT
              have hPq : Pr[q]? = some (c, p) := by rw [hPr, List.getElem?_map, hx, Option.map_some, pairAt_eq hxc2 hxp]
              have hD' : Hid ((Pr.take (q + 1)).map (·.1) = D ++ [c]) := by unfold Hid; rw [List.take_add_one, hPq, List.map_append, hD]; rfl
              have hP' : Hid ((Pr.take (q + 1)).map (·.2) = P ++ [p]) := by unfold Hid; rw [List.take_add_one, hPq, List.map_append, hP]; rfl
              have hDl : D.length ≤ 1000000000 := by rw [hD, List.length_map, List.length_take]; omega
              have hPl : P.length ≤ 1000000000 := by rw [hP, List.length_map, List.length_take]; omega
              have hS : ∀ W : World, w2.heap.size ≤ W.heap.size → Below w2.heap.size w2 W → (fun W : World => w2.heap.size ≤ W.heap.size ∧ Below w2.heap.size w2 W ∧ W.cell? ⟨w.heap.size, 4, none⟩ = some (.slice (some ⟨b2, o2, none⟩) n2 c2) ∧ W.cell? ⟨w.heap.size, 5, none⟩ = some (.slice (some ⟨b3, o3, none⟩) j c3) ∧ W.cell? ⟨b2, o2 + x, none⟩ = some (.string c) ∧ W.cell? ⟨b3, o3 + x * 3, none⟩ = some (.string p.pack) ∧ W.cell? ⟨b3, o3 + x * 3 + 1, none⟩ = some (.int .i64 p.at_) ∧ W.cell? ⟨b3, o3 + x * 3 + 2, none⟩ = some (.int .i64 p.len)) W := fun W hz hb =>
                have hbb := (bs2.out.below hb).cells
                have hpp := (h31.to hb).placeAt hxp
                ⟨hz, hb, hbb.2.2.2.2.1, hbb.2.2.2.2.2, (h21.to hb).strAt hxc2, hpp.1, hpp.2.1, hpp.2.2⟩
              obtain ⟨_, _, y4, y5, y6, y7, y8, y9⟩ := hS _ hzq hbq
              have hxn : x < n2 := by have := hn23.out; omega
              replace hS := Lib.hid hS
              replace hD := Lib.hid hD
              replace hP := Lib.hid hP
              replace hx := Lib.hid hx
              replace hxp := Lib.hid hxp
              replace hxc2 := Lib.hid hxc2
              replace hPq := Lib.hid hPq
              go_wp2_with fail
              go_region_held3 (fun W : World => w2.heap.size ≤ W.heap.size ∧ Below w2.heap.size w2 W ∧ W.cell? ⟨w.heap.size, 4, none⟩ = some (.slice (some ⟨b2, o2, none⟩) n2 c2) ∧ W.cell? ⟨w.heap.size, 5, none⟩ = some (.slice (some ⟨b3, o3, none⟩) j c3) ∧ W.cell? ⟨b2, o2 + x, none⟩ = some (.string c) ∧ W.cell? ⟨b3, o3 + x * 3, none⟩ = some (.string p.pack) ∧ W.cell? ⟨b3, o3 + x * 3 + 1, none⟩ = some (.int .i64 p.at_) ∧ W.cell? ⟨b3, o3 + x * 3 + 2, none⟩ = some (.int .i64 p.len))
                ((go_split_ands; exact hS.out _ (by first | omega | (simp; try omega)) (by repeat (first | exact Below.refl _ _ | assumption | refine Below.drew ?_ | refine below_drewN ?_ _ | refine Below.alloc ?_ (by first | omega | (simp; try omega)) _ | refine Below.setCell ?_ (by first | omega | (simp; try omega)) _ | (refine Below.trans ?_ (Below.mono (by assumption) (by first | omega | (simp; try omega))))))))
                (first
                  | ((go_split_ands; apply Elem.step_one placeE (s := .tmp 52) (x := .tmp 58) (base := w2.heap.size) (l := P) (y := p); (case' hgd => rfl); (case' ho => rfl); (case' hs => rfl); (case' hx => rfl); (case' hown => exact (by (repeat (first | with_reducible refine Two.alloc ?_ (by first | omega | (simp; try omega)) _ | with_reducible refine Two.drew ?_ | with_reducible refine Two.drewN ?_ _ | with_reducible refine Owns.alloc ?_ _ | with_reducible refine Owns.drew ?_ | with_reducible refine Owns.drewN ?_ _)); exact Ta.o5)); (case' hy => exact (fun j u hu => by rcases j with _ | _ | _ | j <;> simp [placeE, Place.cells] at hu <;> subst hu <;> first | (go_simp; done) | exact hga.cell (by go_simp) (fun e => absurd ((hT.out.o4).within e.symm).2 (by first | omega | (simp; done) | (simp; omega))))); (case' hl => exact hPl); (case' hbase => exact (by first | omega | (simp; try omega)))); intro vz5 wz hownz hgz hatz; have Tz : Two w2 wz w2.heap.size vz4 vz5 (D ++ [c]) (P ++ [p]) := (by refine Two.grow5 (P := P) ?_ ?_ hownz hgz hatz; exact (by (repeat (first | with_reducible refine Two.alloc ?_ (by first | omega | (simp; try omega)) _ | with_reducible refine Two.drew ?_ | with_reducible refine Two.drewN ?_ _ | with_reducible refine Owns.alloc ?_ _ | with_reducible refine Owns.drew ?_ | with_reducible refine Owns.drewN ?_ _)); exact Ta); exact (by first | omega | (simp; try omega))); have hbz := Tz.below; have hzz := hbz.size)
                  | ((go_split_ands; apply Elem.step_one strE (s := .tmp 44) (x := .tmp 50) (base := w2.heap.size) (l := D) (y := c); (case' hgd => rfl); (case' ho => rfl); (case' hs => rfl); (case' hx => rfl); (case' hown => exact (by (repeat (first | with_reducible refine Two.alloc ?_ (by first | omega | (simp; try omega)) _ | with_reducible refine Two.drew ?_ | with_reducible refine Two.drewN ?_ _ | with_reducible refine Owns.alloc ?_ _ | with_reducible refine Owns.drew ?_ | with_reducible refine Owns.drewN ?_ _)); exact Tb.o4)); (case' hy => exact (fun j u hu => by rcases j with _ | j <;> simp [strE, strCell] at hu; subst hu; first | (go_simp; done) | exact hgb.cell (by go_simp) (fun e => absurd ((hT.out.o5).within e.symm).2 (by first | omega | (simp; done) | (simp; omega))))); (case' hl => exact hDl); (case' hbase => exact (by first | omega | (simp; try omega)))); intro vz4 wz hownz hgz hatz; have Tz : Two w2 wz w2.heap.size vz4 vz5 (D ++ [c]) (P ++ [p]) := (by refine Two.grow4 (D := D) ?_ ?_ hownz hgz hatz; exact (by (repeat (first | with_reducible refine Two.alloc ?_ (by first | omega | (simp; try omega)) _ | with_reducible refine Two.drew ?_ | with_reducible refine Two.drewN ?_ _ | with_reducible refine Owns.alloc ?_ _ | with_reducible refine Owns.drew ?_ | with_reducible refine Owns.drewN ?_ _)); exact Tb); exact (by first | omega | (simp; try omega))); have hbz := Tz.below; have hzz := hbz.size)
                  | ((go_split_ands; apply Elem.step_one strE (s := .tmp 44) (x := .tmp 50) (base := w2.heap.size) (l := D) (y := c); (case' hgd => rfl); (case' ho => rfl); (case' hs => rfl); (case' hx => rfl); (case' hown => exact (by (repeat (first | with_reducible refine Two.alloc ?_ (by first | omega | (simp; try omega)) _ | with_reducible refine Two.drew ?_ | with_reducible refine Two.drewN ?_ _ | with_reducible refine Owns.alloc ?_ _ | with_reducible refine Owns.drew ?_ | with_reducible refine Owns.drewN ?_ _)); exact hT.out.o4)); (case' hy => exact (fun j u hu => by rcases j with _ | j <;> simp [strE, strCell] at hu; subst hu; go_simp)); (case' hl => exact hDl); (case' hbase => exact (by first | omega | (simp; try omega)))); intro vz4 wa howna hga hata; have Ta : Two w2 wa w2.heap.size vz4 u5 (D ++ [c]) P := (by refine Two.grow4 (D := D) ?_ ?_ howna hga hata; exact (by (repeat (first | with_reducible refine Two.alloc ?_ (by first | omega | (simp; try omega)) _ | with_reducible refine Two.drew ?_ | with_reducible refine Two.drewN ?_ _ | with_reducible refine Owns.alloc ?_ _ | with_reducible refine Owns.drew ?_ | with_reducible refine Owns.drewN ?_ _)); exact hT.out); exact (by first | omega | (simp; try omega))); have hba := Ta.below; have hza := hga.size; (try simp at hza))
                  | ((go_split_ands; apply Elem.step_one placeE (s := .tmp 52) (x := .tmp 58) (base := w2.heap.size) (l := P) (y := p); (case' hgd => rfl); (case' ho => rfl); (case' hs => rfl); (case' hx => rfl); (case' hown => exact (by (repeat (first | with_reducible refine Two.alloc ?_ (by first | omega | (simp; try omega)) _ | with_reducible refine Two.drew ?_ | with_reducible refine Two.drewN ?_ _ | with_reducible refine Owns.alloc ?_ _ | with_reducible refine Owns.drew ?_ | with_reducible refine Owns.drewN ?_ _)); exact hT.out.o5)); (case' hy => exact (fun j u hu => by rcases j with _ | _ | _ | j <;> simp [placeE, Place.cells] at hu <;> subst hu <;> go_simp)); (case' hl => exact hPl); (case' hbase => exact (by first | omega | (simp; try omega)))); intro vz5 wb hownb hgb hatb; have Tb : Two w2 wb w2.heap.size u4 vz5 D (P ++ [p]) := (by refine Two.grow5 (P := P) ?_ ?_ hownb hgb hatb; exact (by (repeat (first | with_reducible refine Two.alloc ?_ (by first | omega | (simp; try omega)) _ | with_reducible refine Two.drew ?_ | with_reducible refine Two.drewN ?_ _ | with_reducible refine Owns.alloc ?_ _ | with_reducible refine Owns.drew ?_ | with_reducible refine Owns.drewN ?_ _)); exact hT.out); exact (by first | omega | (simp; try omega))); have hbb := Tb.below; have hzb := hgb.size; (try simp at hzb)))
              all_goals
                go_split_ands
                go_wp2_with fail
                go_roundw
                case rel => exact ⟨q + 1, by omega, by go_num, by rw [hD'.out, hP'.out]; exact (by (repeat (first | with_reducible refine Two.alloc ?_ (by first | omega | (simp; try omega)) _ | with_reducible refine Two.drew ?_ | with_reducible refine Two.drewN ?_ _ | with_reducible refine Owns.alloc ?_ _ | with_reducible refine Owns.drew ?_ | with_reducible refine Owns.drewN ?_ _)); exact Tz)⟩
                case measure => simp [intOf]; omega
            · obtain rfl : q = m := by omega
              have hTd : Hid (Pr.take q = Pr) := by unfold Hid; rw [List.take_of_length_le (by rw [hPr, List.length_map, hlen.out]; exact Nat.le_refl _)]
              rw [hTd.out] at hT
              have hne : Pr ≠ [] := by
                rw [hPr]
                intro e
                have := congrArg List.length e
                rw [List.length_map, hlen.out] at this
                simp at this
                omega
              have hres : Hid (OfRes ⟨k, n, next, sn, cs, ps⟩ pack (Pr.map (·.1)) (Pr.map (·.2)) 0) := .inr ⟨hm.out, Pr, hL.out, rfl, rfl, .inr ⟨hne, rfl⟩⟩
              replace hne := Lib.hid hne
              go_wp2_with fail
              go_ret3
              exact ⟨_, _, _, _, 0, rfl, hres.out, hT.out.o4.from (by omega), hT.out.o5.from (by omega), hbw2.trans (hbq.mono (by omega))⟩
end Go.Proofs.YtdhlmhkabckbaaaGreatDoor
