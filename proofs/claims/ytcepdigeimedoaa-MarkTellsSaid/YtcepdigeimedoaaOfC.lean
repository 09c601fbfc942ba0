/-
  The contract of the reference's Of.
-/
import Derived.Test.YtcepdigeimedoaaOfB
import Derived.Deep.DeepCutAuto
import Derived.Deep.CutBlock
namespace Go.Proofs.Ytcepdigeimedoaa
open Go.RowKit
attribute [local go_sem ↓] Go.wp_at_zero Go.wp_at_succ

/-- What the reference's inner loop has chosen among the first j. -/
def Sel (ps : List Place) (pack : ByteArray) (F : Nat) (j : Nat) (nx : Value) : Prop :=
  (nx = .int .i64 (-1) ∧ ∀ (i : Nat) (r : Place), i < j → ps[i]? = some r → r.pack = pack → r.at_ < (F : Int)) ∨
  (∃ (q : Nat) (p : Place), q < j ∧ nx = .int .i64 q ∧ ps[q]? = some p ∧ p.pack = pack ∧ (F : Int) ≤ p.at_ ∧ ∀ (i : Nat) (r : Place), i < j → ps[i]? = some r → r.pack = pack → (F : Int) ≤ r.at_ → p.at_ ≤ r.at_)
theorem Sel.skip {ps : List Place} {pack : ByteArray} {F j : Nat} {nx : Value} {r : Place} (h : Sel ps pack F j nx) (hr : ps[j]? = some r) (hn : r.pack ≠ pack ∨ r.at_ < (F : Int)) : Sel ps pack F (j + 1) nx := by
  rcases h with ⟨h1, h2⟩ | ⟨q, p, h1, h2, h3, h4, h5, h6⟩
  · refine .inl ⟨h1, fun i r' hi hr' hp => ?_⟩
    rcases Nat.lt_or_ge i j with h | h
    · exact h2 i r' h hr' hp
    · obtain rfl : i = j := by omega
      rw [hr] at hr'
      injection hr' with e
      subst e
      rcases hn with hn | hn
      · exact absurd hp hn
      · exact hn
  · refine .inr ⟨q, p, by omega, h2, h3, h4, h5, fun i r' hi hr' hp hf => ?_⟩
    rcases Nat.lt_or_ge i j with h | h
    · exact h6 i r' h hr' hp hf
    · obtain rfl : i = j := by omega
      rw [hr] at hr'
      injection hr' with e
      subst e
      rcases hn with hn | hn
      · exact absurd hp hn
      · omega
theorem Sel.first {ps : List Place} {pack : ByteArray} {F j : Nat} {r : Place} (h : ∀ (i : Nat) (r : Place), i < j → ps[i]? = some r → r.pack = pack → r.at_ < (F : Int)) (hr : ps[j]? = some r) (hp : r.pack = pack) (hf : (F : Int) ≤ r.at_) : Sel ps pack F (j + 1) (.int .i64 j) := by
  refine .inr ⟨j, r, by omega, rfl, hr, hp, hf, fun i r' hi hr' hp' hf' => ?_⟩
  rcases Nat.lt_or_ge i j with h' | h'
  · have := h i r' h' hr' hp'
    omega
  · obtain rfl : i = j := by omega
    rw [hr] at hr'
    injection hr' with e
    subst e
    exact Int.le_refl _
theorem Sel.stay {ps : List Place} {pack : ByteArray} {F j q : Nat} {p r : Place} (h1 : q < j) (h3 : ps[q]? = some p) (h4 : p.pack = pack) (h5 : (F : Int) ≤ p.at_) (h6 : ∀ (i : Nat) (r : Place), i < j → ps[i]? = some r → r.pack = pack → (F : Int) ≤ r.at_ → p.at_ ≤ r.at_) (hr : ps[j]? = some r) (hn : p.at_ ≤ r.at_) : Sel ps pack F (j + 1) (.int .i64 q) := by
  refine .inr ⟨q, p, by omega, rfl, h3, h4, h5, fun i r' hi hr' hp hf => ?_⟩
  rcases Nat.lt_or_ge i j with h | h
  · exact h6 i r' h hr' hp hf
  · obtain rfl : i = j := by omega
    rw [hr] at hr'
    injection hr' with e
    subst e
    exact hn
theorem Sel.turn {ps : List Place} {pack : ByteArray} {F j : Nat} {p r : Place} (h6 : ∀ (i : Nat) (r : Place), i < j → ps[i]? = some r → r.pack = pack → (F : Int) ≤ r.at_ → p.at_ ≤ r.at_) (hr : ps[j]? = some r) (hp : r.pack = pack) (hf : (F : Int) ≤ r.at_) (hn : r.at_ < p.at_) : Sel ps pack F (j + 1) (.int .i64 j) := by
  refine .inr ⟨j, r, by omega, rfl, hr, hp, hf, fun i r' hi hr' hp' hf' => ?_⟩
  rcases Nat.lt_or_ge i j with h | h
  · have := h6 i r' h hr' hp' hf'
    omega
  · obtain rfl : i = j := by omega
    rw [hr] at hr'
    injection hr' with e
    subst e
    exact Int.le_refl _

set_option maxHeartbeats 2000000 in
set_option maxRecDepth 100000 in
theorem ref17_Of (v : Rws) (s : St) (pack : ByteArray) (w : World) (h : StAt w w.heap.size v s) :
    Calls Try.prog 83 #[v.val s, .string pack] w fun e w' => ∃ u1 u2 D P z, e = .returned (.tuple #[u1, u2, .int .i64 z]) ∧ OfRes s pack D P z ∧ strE.Own w' w.heap.size u1 D ∧ placeE.Own w' w.heap.size u2 P ∧ Below w.heap.size w w' := by
  obtain ⟨k, n, next, sn, cs, ps⟩ := s
  obtain ⟨A1, n1, c1, A2, n2, c2, A3, n3, c3⟩ := v
  obtain ⟨-, h2, h3, hok⟩ := h
  dsimp only at h2 h3 hok
  unfold Rws.val stv
  dsimp only
  have l2 := Lib.hid h2.1
  have l3 := Lib.hid h3.1
  have hmay := fun W (hb : Below w.heap.size w W) => ref17_May k n next A1 n1 c1 A2 n2 c2 A3 n3 c3 cs ps W (h2.to hb) (h3.to hb) hok
  unfold stv at hmay
  replace hmay := Lib.hid hmay
  have bs := Lib.hid (BoxAt.new w k n next (.slice A1 n1 c1) (.slice A2 n2 c2) (.slice A3 n3 c3))
  clear hok
  cases hm : mayIdx cs ps
  · have hres : Hid (OfRes ⟨k, n, next, sn, cs, ps⟩ pack [] [] 4) := .inl ⟨hm, rfl, rfl, rfl⟩
    rw [hm] at hmay
    replace hm := Lib.hid hm
    go_enter Try.func83, Try.ntmps83
    go_wp2_with fail
    refine (hmay.out _ (by repeat (first | exact Below.refl _ _ | assumption | refine Below.drew ?_ | refine below_drewN ?_ _ | refine Below.alloc ?_ (by first | omega | (simp; try omega)) _ | refine Below.setCell ?_ (by first | omega | (simp; try omega)) _ | (refine Below.trans ?_ (Below.mono (by assumption) (by first | omega | (simp; try omega))))))).mono ?_
    rintro e w1 ⟨rfl, hb1⟩
    have hz1 := hb1.size
    go_wp2_with fail
    go_ret3
    exact ⟨.slice none 0 0, .slice none 0 0, [], [], 4, rfl, hres.out, Owns.nil_, Owns.nil_, (by repeat (first | exact Below.refl _ _ | assumption | refine Below.drew ?_ | refine below_drewN ?_ _ | refine Below.alloc ?_ (by first | omega | (simp; try omega)) _ | refine Below.setCell ?_ (by first | omega | (simp; try omega)) _ | (refine Below.trans ?_ (Below.mono (by assumption) (by first | omega | (simp; try omega))))))⟩
  · have h400 : n3 ≤ 400 := by have := mayIdx_len hm; have := l3.out; omega
    have hn23 : Hid (n2 = n3) := by have := mayIdx_len hm; have := l3.out; have := l2.out; unfold Hid; omega
    have hv := Lib.hid (fun p hp => mayPlace_bounds (mayIdx_places hm p hp))
    rw [hm] at hmay
    replace hm := Lib.hid hm
    go_enter Try.func83, Try.ntmps83
    go_wp2_with fail
    refine (hmay.out _ (by repeat (first | exact Below.refl _ _ | assumption | refine Below.drew ?_ | refine below_drewN ?_ _ | refine Below.alloc ?_ (by first | omega | (simp; try omega)) _ | refine Below.setCell ?_ (by first | omega | (simp; try omega)) _ | (refine Below.trans ?_ (Below.mono (by assumption) (by first | omega | (simp; try omega))))))).mono ?_
    rintro e w1 ⟨rfl, hb1⟩
    have hz1 := hb1.size
    simp at hz1
    have hbw1 : Below w.heap.size w w1 := (by repeat (first | exact Below.refl _ _ | assumption | refine Below.drew ?_ | refine below_drewN ?_ _ | refine Below.alloc ?_ (by first | omega | (simp; try omega)) _ | refine Below.setCell ?_ (by first | omega | (simp; try omega)) _ | (refine Below.trans ?_ (Below.mono (by assumption) (by first | omega | (simp; try omega))))))
    have bs1 := Lib.hid (bs.out.below hb1)
    have h21 := h2.to hbw1
    have h31 := h3.to hbw1
    clear hb1 hmay
    go_upto_block 0 with fail
    go_cut [7, 8, 9, 10, 11] (fun d p f nx i wc => ∃ (F : Nat) (a b : Value) (L : List (ByteArray × Place)), f = .int .i64 F ∧ nx = a ∧ i = b ∧ OfL cs ps pack L ∧ Two w1 wc w1.heap.size d p (L.map (·.1)) (L.map (·.2)))
    case first =>
      go_wp2_with fail
      go_loopw [7, 8, 9, 10, 11] (fun d p f _ _ wr => ∃ (F : Nat) (L : List (ByteArray × Place)), F ≤ 32769 ∧ f = .int .i64 F ∧ L.length ≤ F ∧ Hid (OfTo cs ps pack F L) ∧ Two w1 wr w1.heap.size d p (L.map (·.1)) (L.map (·.2))) (fun _ _ f _ _ _ => 32769 - (intOf f).toNat)
      case atStart => exact ⟨0, [], by omega, rfl, Nat.le_refl _, OfTo.nil hm.out, Owns.nil_, Owns.nil_, .inl rfl, (by repeat (first | exact Below.refl _ _ | assumption | refine Below.drew ?_ | refine below_drewN ?_ _ | refine Below.alloc ?_ (by first | omega | (simp; try omega)) _ | refine Below.setCell ?_ (by first | omega | (simp; try omega)) _ | (refine Below.trans ?_ (Below.mono (by assumption) (by first | omega | (simp; try omega))))))⟩
      case round =>
        obtain ⟨F, L, hF, rfl, hL, hto, T⟩ := hrel
        obtain ⟨D, hD⟩ : ∃ D, D = L.map (·.1) := ⟨_, rfl⟩
        obtain ⟨P, hP⟩ : ∃ P, P = L.map (·.2) := ⟨_, rfl⟩
        rw [← hD, ← hP] at T
        have hDl : D.length ≤ 32769 := by rw [hD, List.length_map]; omega
        have hPl : P.length ≤ 32769 := by rw [hP, List.length_map]; omega
        obtain ⟨A4, c4, rfl⟩ := T.o4.form
        obtain ⟨A5, c5, rfl⟩ := T.o5.form
        replace hD := Lib.hid hD
        replace hP := Lib.hid hP
        replace hL := Lib.hid hL
        by_cases hlt : F ≤ 32768
        · have hT := Lib.hid T
          have hlt' : decide ((F : Int) ≤ 32768) = true := by simp; omega
          clear T
          go_wp2_with fail
          go_loopw [10, 11] (fun nx i wr => ∃ j : Nat, j ≤ n3 ∧ i = .int .i64 j ∧ Hid (Sel ps pack F j nx) ∧ Hid (Two w1 wr w1.heap.size (.slice A4 D.length c4) (.slice A5 P.length c5) D P)) (fun _ i _ => n3 - (intOf i).toNat)
          case atStart => exact ⟨0, Nat.zero_le _, rfl, .inl ⟨rfl, fun i r hi => absurd hi (by omega)⟩, hT⟩
          case round =>
            clear hT
            obtain ⟨j, hj, rfl, hsel, hT⟩ := hrel
            have hbw := hT.out.below
            have hzw := hbw.size
            obtain ⟨x0, x1, x2, x3, x4, x5⟩ := (bs1.out.below hbw).cells
            by_cases hjn : j < n3
            · obtain ⟨b0, off, r, hA, hb0, hx, q0, q1, q2⟩ := (h31.to hbw).place hjn
              rw [hA] at x5
              have hrow : Hid (∀ q p, ps[q]? = some p → _) := fun q p hq => RowAt.placeAt (hA ▸ (h31.to hbw)) hq
              replace hA := Lib.hid hA
              by_cases hpk : r.pack = pack
              · have g1 := str_eq hpk
                by_cases hf : (F : Int) ≤ r.at_
                · have g2 : decide ((F : Int) ≤ r.at_) = true := by simpa using hf
                  rcases hsel.out with ⟨rfl, hno⟩ | ⟨q, p, hq1, rfl, hq3, hq4, hq5, hq6⟩
                  · have hn := Lib.hid (Sel.first hno hx hpk hf)
                    clear hno hsel
                    replace hpk := Lib.hid hpk
                    replace hf := Lib.hid hf
                    replace hx := Lib.hid hx
                    go_wp2_with fail
                    go_quiet (fail)
                    go_wp2_with fail
                    go_roundw
                    case rel => exact ⟨j + 1, by omega, by go_num, hn, Lib.hid (hT.out.drewN _)⟩
                    case measure => simp [intOf]; omega
                  · obtain ⟨p0, p1, p2⟩ := hrow.out q p hq3
                    have g3 : decide ((q : Int) < 0) = false := by simp
                    have hqn : (q : Int) < (n3 : Int) := by omega
                    by_cases hlt2 : r.at_ < p.at_
                    · have g4 : decide (r.at_ < p.at_) = true := by simpa using hlt2
                      have hn := Lib.hid (Sel.turn hq6 hx hpk hf hlt2)
                      clear hq6 hsel hq5 hq4 hq3
                      replace hlt2 := Lib.hid hlt2
                      replace hpk := Lib.hid hpk
                      replace hf := Lib.hid hf
                      replace hx := Lib.hid hx
                      go_wp2_with fail
                      go_quiet (fail)
                      go_wp2_with fail
                      go_roundw
                      case rel => exact ⟨j + 1, by omega, by go_num, hn, Lib.hid (hT.out.drewN _)⟩
                      case measure => simp [intOf]; omega
                    · have g4 : decide (r.at_ < p.at_) = false := by simpa using hlt2
                      have hn := Lib.hid (Sel.stay hq1 hq3 hq4 hq5 hq6 hx (by omega))
                      clear hq6 hsel hq5 hq4 hq3
                      replace hlt2 := Lib.hid hlt2
                      replace hpk := Lib.hid hpk
                      replace hf := Lib.hid hf
                      replace hx := Lib.hid hx
                      go_wp2_with fail
                      go_quiet (fail)
                      go_wp2_with fail
                      go_roundw
                      case rel => exact ⟨j + 1, by omega, by go_num, hn, Lib.hid (hT.out.drewN _)⟩
                      case measure => simp [intOf]; omega
                · have g2 : decide ((F : Int) ≤ r.at_) = false := by simpa using hf
                  have hn := Lib.hid (hsel.out.skip hx (.inr (by omega)))
                  clear hsel
                  replace hpk := Lib.hid hpk
                  replace hf := Lib.hid hf
                  replace hx := Lib.hid hx
                  go_wp2_with fail
                  go_quiet (fail)
                  go_wp2_with fail
                  go_roundw
                  case rel => exact ⟨j + 1, by omega, by go_num, hn, Lib.hid (hT.out.drewN _)⟩
                  case measure => simp [intOf]; omega
              · have g1 := str_ne hpk
                have hn := Lib.hid (hsel.out.skip hx (.inl hpk))
                clear hsel
                replace hpk := Lib.hid hpk
                replace hx := Lib.hid hx
                go_wp2_with fail
                go_quiet (fail)
                go_wp2_with fail
                go_roundw
                case rel => exact ⟨j + 1, by omega, by go_num, hn, Lib.hid (hT.out.drewN _)⟩
                case measure => simp [intOf]; omega
            · rcases hsel.out with ⟨rfl, hno⟩ | ⟨q, p, hq1, rfl, hq3, hq4, hq5, hq6⟩
              · have hdone : Hid (OfL cs ps pack L) := hto.out.done (fun i r hi hp => hno i r (by have := (List.getElem?_eq_some_iff.1 hi).1; have := l3.out; omega) hi hp)
                clear hno hsel
                go_wp2_with fail
                go_meet
                exact ⟨F, _, _, L, rfl, rfl, rfl, hdone.out, by rw [← hD.out, ← hP.out]; exact hT.out⟩
              · have hxq : q < n3 := by have := (List.getElem?_eq_some_iff.1 hq3).1; have := l3.out; omega
                obtain ⟨b3, o3, p', hA3, hb3, hx3, _⟩ := h31.place hxq
                obtain rfl : p = p' := by rw [hq3] at hx3; injection hx3
                obtain ⟨b2, o2, c, hA2, hb2, hxc2, _⟩ := h21.str (i := q) (by have := hn23.out; omega)
                rw [hA3] at x5
                rw [hA2] at x4
                have hbd := hv.out p (List.mem_of_getElem? hq3)
                obtain ⟨a, ha⟩ : ∃ a : Nat, p.at_ = (a : Int) := ⟨p.at_.toNat, by omega⟩
                have hFa : F ≤ a := by omega
                have ha8 : a ≤ 32768 := by omega
                have hq0 : decide ((q : Int) < 0) = false := by simp
                have hqn : (q : Int) < (n2 : Int) := by have := hn23.out; omega
                have hqn3 : (q : Int) < (n3 : Int) := by omega
                have hcell := Lib.hid (fun W (hb : Below w1.heap.size w1 W) => (⟨((bs1.out.below hb).cells).2.2.2.2.1, ((bs1.out.below hb).cells).2.2.2.2.2, (hA2 ▸ (h21.to hb)).strAt hxc2, RowAt.placeAt (hA3 ▸ (h31.to hb)) hq3⟩ : _ ∧ _ ∧ _ ∧ _))
                rw [hA2, hA3, ha] at hcell
                have hnext := hto.out.next hm.out hxc2 hq3 hq4 hq5 (fun i r hi hp hf => hq6 i r (by have := (List.getElem?_eq_some_iff.1 hi).1; have := l3.out; omega) hi hp hf)
                rw [ha] at hnext
                have hto2 : Hid (OfTo cs ps pack ((a + 1 : Nat) : Int) (L ++ [(c, p)])) := by unfold Hid; simpa using hnext
                clear hq6 hsel hq5 hq4 hnext x0 x1 x2 x3 x4 x5
                replace ha := Lib.hid ha
                replace hA2 := Lib.hid hA2
                replace hA3 := Lib.hid hA3
                replace hq3 := Lib.hid hq3
                replace hx3 := Lib.hid hx3
                replace hxc2 := Lib.hid hxc2
                replace hbd := Lib.hid hbd
                obtain ⟨y4, y5, yc, y0, y1, y2⟩ := hcell.out _ hbw
                have tok1 : True := trivial
                go_wp2_with (first
                  | (at_builtin; have _t := tok1; go_must (refine Elem.wpList_one strE rfl (.tmp 64) (.tmp 70) rfl w1.heap.size _ D rfl _ _ c rfl (by (repeat (first | with_reducible refine Two.alloc ?_ (by first | omega | (simp; try omega)) _ | with_reducible refine Two.drew ?_ | with_reducible refine Two.drewN ?_ _ | with_reducible refine Owns.alloc ?_ _ | with_reducible refine Owns.drew ?_ | with_reducible refine Owns.drewN ?_ _)); exact hT.out.o4) (fun j u hu => by rcases j with _ | j <;> simp [strE, strCell] at hu; subst hu; go_simp) (by omega) (by first | omega | (simp; try omega)) ?_); intro va wa howna hga hata; have Ta : Two w1 wa w1.heap.size va (.slice A5 P.length c5) (D ++ [c]) P := (by refine Two.grow4 (D := D) ?_ ?_ howna hga hata; exact (by (repeat (first | with_reducible refine Two.alloc ?_ (by first | omega | (simp; try omega)) _ | with_reducible refine Two.drew ?_ | with_reducible refine Two.drewN ?_ _ | with_reducible refine Owns.alloc ?_ _ | with_reducible refine Owns.drew ?_ | with_reducible refine Owns.drewN ?_ _)); exact hT.out); exact (by first | omega | (simp; try omega))); have hba := Ta.below; have hza := hba.size; clear y4 y5 yc y0 y1 y2; obtain ⟨y4, y5, yc, y0, y1, y2⟩ := hcell.out wa hba; clear tok1 _t)
                  | (at_builtin; go_must (refine Elem.wpList_one placeE rfl (.tmp 72) (.tmp 78) rfl w1.heap.size _ P rfl _ _ p rfl (by (repeat (first | with_reducible refine Two.alloc ?_ (by first | omega | (simp; try omega)) _ | with_reducible refine Two.drew ?_ | with_reducible refine Two.drewN ?_ _ | with_reducible refine Owns.alloc ?_ _ | with_reducible refine Owns.drew ?_ | with_reducible refine Owns.drewN ?_ _)); exact Ta.o5) (fun j u hu => by rcases j with _ | _ | _ | j <;> simp [placeE, Place.cells] at hu <;> subst hu <;> first | (go_simp; done) | (go_simp; exact ha.out.symm)) (by omega) (by first | omega | (simp; try omega)) ?_); intro vz wz hownz hgz hatz; have Tz : Two w1 wz w1.heap.size va vz (D ++ [c]) (P ++ [p]) := (by refine Two.grow5 (P := P) ?_ ?_ hownz hgz hatz; exact (by (repeat (first | with_reducible refine Two.alloc ?_ (by first | omega | (simp; try omega)) _ | with_reducible refine Two.drew ?_ | with_reducible refine Two.drewN ?_ _ | with_reducible refine Owns.alloc ?_ _ | with_reducible refine Owns.drew ?_ | with_reducible refine Owns.drewN ?_ _)); exact Ta); exact (by first | omega | (simp; try omega))); have hbz := Tz.below; have hzz := hbz.size; clear y4 y5 yc y0 y1 y2; obtain ⟨y4, y5, yc, y0, y1, y2⟩ := hcell.out wz hbz))
                go_roundw
                case rel => exact ⟨a + 1, L ++ [(c, p)], by omega, by go_num, by have := hL.out; simp; omega, hto2, by rw [List.map_append, List.map_append, ← hD.out, ← hP.out]; exact (by (repeat (first | with_reducible refine Two.alloc ?_ (by first | omega | (simp; try omega)) _ | with_reducible refine Two.drew ?_ | with_reducible refine Two.drewN ?_ _ | with_reducible refine Owns.alloc ?_ _ | with_reducible refine Owns.drew ?_ | with_reducible refine Owns.drewN ?_ _)); exact Tz)⟩
                case measure => simp [intOf]; omega
        · have hdone : Hid (OfL cs ps pack L) := hto.out.done (fun i r hi hp => by have := hv.out r (List.mem_of_getElem? hi); omega)
          go_wp2_with fail
          go_meet
          exact ⟨F, _, _, L, rfl, rfl, rfl, hdone.out, by rw [← hD.out, ← hP.out]; exact T⟩
    case rest =>
      obtain ⟨F, a, b, L, rfl, rfl, rfl, hof, T⟩ := hcut
      obtain ⟨A4, c4, rfl⟩ := T.o4.form
      obtain ⟨A5, c5, rfl⟩ := T.o5.form
      have hbw := T.below
      have hzw := hbw.size
      by_cases hL : L = []
      · have hres : Hid (OfRes ⟨k, n, next, sn, cs, ps⟩ pack [] [] 5) := .inr ⟨hm.out, [], hL ▸ hof, rfl, rfl, .inl ⟨rfl, rfl⟩⟩
        rw [hL]
        clear T hof hL
        go_wp2_with fail
        go_ret3
        exact ⟨_, _, [], [], 5, rfl, hres.out, Owns.nil_, Owns.nil_, hbw1.trans (hbw.mono (by omega))⟩
      · have hg : (((L.map (·.1)).length : Int) == 0) = false := by
          have := List.length_pos_iff.2 hL
          simp
          exact hL
        have hres : Hid (OfRes ⟨k, n, next, sn, cs, ps⟩ pack (L.map (·.1)) (L.map (·.2)) 0) := .inr ⟨hm.out, L, hof, rfl, rfl, .inr ⟨hL, rfl⟩⟩
        replace hL := Lib.hid hL
        replace hof := Lib.hid hof
        generalize hD : L.map (·.1) = D at *
        generalize hP : L.map (·.2) = P at *
        replace hD := Lib.hid hD
        replace hP := Lib.hid hP
        go_wp2_with fail
        go_ret3
        exact ⟨_, _, _, _, 0, rfl, hres.out, T.o4.from (by omega), T.o5.from (by omega), hbw1.trans (hbw.mono (by omega))⟩
end Go.Proofs.Ytcepdigeimedoaa
