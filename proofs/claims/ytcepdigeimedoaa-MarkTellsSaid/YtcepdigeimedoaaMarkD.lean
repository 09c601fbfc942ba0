/-
  The contract of the reference's Rising.
-/
import Derived.Test.YtcepdigeimedoaaMarkC
import Derived.Test.YtcepdigeimedoaaCutRow
import Derived.Deep.DeepCutAuto
import Derived.Deep.CutBlock
namespace Go.Proofs.Ytcepdigeimedoaa
open Go.RowKit
attribute [local go_sem ↓] Go.wp_at_zero Go.wp_at_succ

/-- Above, as it is told of texts. -/
theorem gtS_false {x y : ByteArray} (h : sLt x y = false) : (!Op.bytesLess y.toList x.toList && !y.toList == x.toList) = false := by
  rcases sLt_tri x y with h1 | h1 | h1
  · rw [h] at h1; cases h1
  · subst h1; simp
  · have : Op.bytesLess y.toList x.toList = true := h1
    simp [this]

set_option maxHeartbeats 4000000 in
set_option maxRecDepth 100000 in
theorem ref20_Rising (A : Option Addr) (n c : Nat) (l : List ByteArray) (w : World) (h : StrsAt w w.heap.size A n l) (hn9 : n ≤ 1000000) :
    Calls Try.prog 84 #[.slice A n c] w fun e w' => ∃ v, e = .returned v ∧ strE.Own w' w.heap.size v (setS l) ∧ Below w.heap.size w w' := by
  have hl := Lib.hid h.1
  go_enter Try.func84, Try.ntmps84
  go_wp2
  go_loopw [3, 4, 5, 6] (fun v i _ _ wr => ∃ k : Nat, k ≤ n ∧ i = .int .i64 k ∧ strE.Own wr w.heap.size v (setS (l.take k)) ∧ Below w.heap.size w wr) (fun _ i _ _ _ => n - (intOf i).toNat)
  case atStart => exact ⟨0, Nat.zero_le _, rfl, Owns.nil_, Below.refl _ _⟩
  case round =>
    obtain ⟨k, hk, rfl, hown, hbr⟩ := hrel
    obtain ⟨wp, rfl⟩ : ∃ x : World, x = wr := ⟨_, rfl⟩
    have hzr := hbr.size
    by_cases hlt : k < n
    · obtain ⟨b0, off, x, rfl, hb0, hx, q0⟩ := (h.to hbr).str hlt
      have ht : l.take (k + 1) = l.take k ++ [x] := by rw [List.take_add_one, hx]; rfl
      obtain ⟨S, hS⟩ : ∃ S, S = setS (l.take k) := ⟨_, rfl⟩
      have hSl : S.length ≤ k := by rw [hS]; exact Nat.le_trans (setS_len _) (by simp; omega)
      have hSr : RiseS S := hS ▸ setS_rise _
      have hins : ∀ q, (∀ y ∈ S.take q, sLt y x = true) → (∀ y ∈ S.drop q, sLt x y = true) → setS (l.take (k + 1)) = S.take q ++ [x] ++ S.drop q := fun q h1 h2 => by rw [ht, hS]; rw [hS] at h1 h2; exact set_ins h1 h2
      have hhas : x ∈ S → setS (l.take (k + 1)) = S := fun hin => by rw [ht, hS]; rw [hS] at hin; exact set_has hin
      rw [← hS] at hown
      replace hS := Lib.hid hS
      replace hSr := Lib.hid hSr
      replace hins := Lib.hid hins
      replace hhas := Lib.hid hhas
      replace hx := Lib.hid hx
      replace ht := Lib.hid ht
      obtain ⟨m, hm⟩ : ∃ m, m = S.length := ⟨_, rfl⟩
      obtain ⟨A3, c3, rfl⟩ : ∃ A c, u3 = .slice A m c := by obtain ⟨A, c, e⟩ := Owns.form hown; exact ⟨A, c, by rw [e, hm]⟩
      have rk := hown.row strCell_len
      have hmk : m ≤ k := by omega
      replace hm := Lib.hid hm
      go_upto_block 2 with fail
      go_cut [5] (fun a wc => ∃ q : Nat, q ≤ m ∧ a = .int .i64 q ∧ Below wp.heap.size wp wc ∧ Hid (∀ y ∈ S.drop q, sLt x y = true) ∧ Hid (q = 0 ∨ ∃ (q1 : Nat) (y : ByteArray), q1 + 1 = q ∧ S[q1]? = some y ∧ sLt x y = false))
      case first =>
        go_wp2
        go_loopw [5] (fun a wq => ∃ q : Nat, q ≤ m ∧ a = .int .i64 q ∧ Below wp.heap.size wp wq ∧ Hid (∀ y ∈ S.drop q, sLt x y = true)) (fun a _ => (intOf a).toNat)
        case atStart => exact ⟨m, Nat.le_refl _, rfl, Below.refl _ _, by unfold Hid; rw [List.drop_eq_nil_of_le (by have := hm.out; omega)]; simp⟩
        case round =>
          obtain ⟨q, hq, rfl, hbq, hgt⟩ := hrel
          obtain ⟨wq, rfl⟩ : ∃ x : World, x = wr := ⟨_, rfl⟩
          have hzq := hbq.size
          have rq := rk.to hbq
          have qq : wq.cell? ⟨b0, off + k, none⟩ = some (.string x) := (hbq.cell (p := ⟨b0, off + k, none⟩) hb0).trans q0
          by_cases h0 : q = 0
          · have gq : decide ((0 : Int) < (q : Int)) = false := by simp; omega
            have gq' : decide (0 < q) = false := by simp; omega
            have h0' := Lib.hid h0
            go_wp2
            go_quiet (fail)
            go_wp2
            go_meet
            exact ⟨q, hq, rfl, (by repeat (first | exact Below.refl _ _ | assumption | refine Below.drew ?_ | refine below_drewN ?_ _ | refine Below.alloc ?_ (by first | omega | (simp; try omega)) _ | refine Below.setCell ?_ (by first | omega | (simp; try omega)) _ | (refine Below.trans ?_ (Below.mono (by assumption) (by first | omega | (simp; try omega)))))), hgt, .inl h0'.out⟩
          · have gq : decide ((0 : Int) < (q : Int)) = true := by simp; omega
            have gq' : decide (0 < q) = true := by simp; omega
            obtain ⟨q1, hq1⟩ : ∃ q1, q1 + 1 = q := ⟨q - 1, by omega⟩
            obtain ⟨b3, o3, y, rfl, hb3, hy, qy⟩ := rq.str (i := q1) (by omega)
            have hwr := wrap_less hq1 (by omega)
            have hq1m : (q1 : Int) < (m : Int) := by omega
            have hq1n : q1 < m := by omega
            have e9 : (q : Int) - 1 = (q1 : Int) := by omega
            have hd : S.drop q1 = y :: S.drop q := by rw [← hq1]; exact drop_cons hy
            cases hc : sLt x y
            · have hcmp : (!Op.bytesLess y.toList x.toList && !y.toList == x.toList) = false := gtS_false hc
              have hmeet : Hid (q = 0 ∨ ∃ (q1 : Nat) (y : ByteArray), q1 + 1 = q ∧ S[q1]? = some y ∧ sLt x y = false) := .inr ⟨q1, y, hq1, hy, hc⟩
              replace hc := Lib.hid hc
              replace hy := Lib.hid hy
              replace hd := Lib.hid hd
              replace hq1 := Lib.hid hq1
              go_wp2
              go_quiet (fail)
              go_wp2
              go_meet
              exact ⟨q, hq, rfl, (by repeat (first | exact Below.refl _ _ | assumption | refine Below.drew ?_ | refine below_drewN ?_ _ | refine Below.alloc ?_ (by first | omega | (simp; try omega)) _ | refine Below.setCell ?_ (by first | omega | (simp; try omega)) _ | (refine Below.trans ?_ (Below.mono (by assumption) (by first | omega | (simp; try omega)))))), hgt, hmeet⟩
            · have hc1 : Op.bytesLess y.toList x.toList = false := sLt_asymm hc
              have hc2 := str_ne (Ne.symm (sLt_ne hc))
              have hgt1 : Hid (∀ z ∈ S.drop q1, sLt x z = true) := by
                unfold Hid
                rw [hd]
                intro z hz
                rcases List.mem_cons.1 hz with rfl | hz
                · exact hc
                · exact hgt.out z hz
              replace hc := Lib.hid hc
              replace hy := Lib.hid hy
              replace hd := Lib.hid hd
              replace hq1 := Lib.hid hq1
              go_wp2
              go_quiet (fail)
              go_wp2
              go_roundw
              case rel => exact ⟨q1, by omega, by go_num, (by repeat (first | exact Below.refl _ _ | assumption | refine Below.drew ?_ | refine below_drewN ?_ _ | refine Below.alloc ?_ (by first | omega | (simp; try omega)) _ | refine Below.setCell ?_ (by first | omega | (simp; try omega)) _ | (refine Below.trans ?_ (Below.mono (by assumption) (by first | omega | (simp; try omega)))))), hgt1⟩
              case measure => simp [intOf]; omega
      case rest =>
      obtain ⟨q, hq, rfl, hbc, hgt, hex⟩ := hcut
      obtain ⟨wq, rfl⟩ : ∃ x : World, x = wc := ⟨_, rfl⟩
      have hbw : Below w.heap.size w wq := hbr.trans (hbc.mono (by omega))
      go_upto_if 44 with fail
      go_cut [44] (fun v wc => ∃ eq : Bool, v = .bool eq ∧ Below wq.heap.size wq wc ∧ Hid (eq = true → x ∈ S) ∧ Hid (eq = false → ∀ y ∈ S.take q, sLt y x = true))
      case first =>
        have rq := rk.to hbc
        have qq : wq.cell? ⟨b0, off + k, none⟩ = some (.string x) := (hbc.cell (p := ⟨b0, off + k, none⟩) hb0).trans q0
        have hzq := hbc.size
        rcases hex.out with h0 | ⟨q1, y, hq1, hy, hc⟩
        · have gq : decide ((0 : Int) < (q : Int)) = false := by simp; omega
          have gq' : decide (0 < q) = false := by simp; omega
          have hm0 : Hid (∀ y ∈ S.take q, sLt y x = true) := by unfold Hid; rw [h0]; simp
          replace h0 := Lib.hid h0
          go_wp2
          go_quiet (fail)
          go_wp2
          go_meet
          exact ⟨false, rfl, (by repeat (first | exact Below.refl _ _ | assumption | refine Below.drew ?_ | refine below_drewN ?_ _ | refine Below.alloc ?_ (by first | omega | (simp; try omega)) _ | refine Below.setCell ?_ (by first | omega | (simp; try omega)) _ | (refine Below.trans ?_ (Below.mono (by assumption) (by first | omega | (simp; try omega)))))), fun h => (by cases h), fun _ => hm0.out⟩
        · have gq : decide ((0 : Int) < (q : Int)) = true := by simp; omega
          have gq' : decide (0 < q) = true := by simp; omega
          obtain ⟨b3, o3, y', rfl, hb3, hy', qy⟩ := rq.str (i := q1) (by omega)
          rw [hy] at hy'
          injection hy' with hy'
          subst hy'
          have hwr := wrap_less hq1 (by omega)
          have hq1m : (q1 : Int) < (m : Int) := by omega
          have hq1n : q1 < m := by omega
          have e9 : (q : Int) - 1 = (q1 : Int) := by omega
          by_cases he : y = x
          · have heq := str_eq he
            have hin : x ∈ S := he ▸ List.mem_of_getElem? hy
            replace hin := Lib.hid hin
            replace he := Lib.hid he
            replace hc := Lib.hid hc
            replace hy := Lib.hid hy
            replace hq1 := Lib.hid hq1
            go_wp2
            go_quiet (fail)
            go_wp2
            go_meet
            exact ⟨true, rfl, (by repeat (first | exact Below.refl _ _ | assumption | refine Below.drew ?_ | refine below_drewN ?_ _ | refine Below.alloc ?_ (by first | omega | (simp; try omega)) _ | refine Below.setCell ?_ (by first | omega | (simp; try omega)) _ | (refine Below.trans ?_ (Below.mono (by assumption) (by first | omega | (simp; try omega)))))), fun _ => hin.out, fun h => (by cases h)⟩
          · have heq := str_ne he
            have hlt9 : sLt y x = true := by
              rcases sLt_tri y x with h1 | h1 | h1
              · exact h1
              · exact absurd h1 he
              · rw [hc] at h1; cases h1
            have hm1 : Hid (∀ z ∈ S.take q, sLt z x = true) := by unfold Hid; rw [← hq1]; exact rise_below hSr.out hy hlt9
            replace hlt9 := Lib.hid hlt9
            replace he := Lib.hid he
            replace hc := Lib.hid hc
            replace hy := Lib.hid hy
            replace hq1 := Lib.hid hq1
            go_wp2
            go_quiet (fail)
            go_wp2
            go_meet
            exact ⟨false, rfl, (by repeat (first | exact Below.refl _ _ | assumption | refine Below.drew ?_ | refine below_drewN ?_ _ | refine Below.alloc ?_ (by first | omega | (simp; try omega)) _ | refine Below.setCell ?_ (by first | omega | (simp; try omega)) _ | (refine Below.trans ?_ (Below.mono (by assumption) (by first | omega | (simp; try omega)))))), fun h => (by cases h), fun _ => hm1.out⟩
      case rest =>
      obtain ⟨eq, rfl, hbd, hyes, h1⟩ := hcut
      obtain ⟨wk, rfl⟩ : ∃ x : World, x = wc := ⟨_, rfl⟩
      have hbx := hbc.trans (hbd.mono hbc.size)
      have hbk : Below w.heap.size w wk := hbr.trans (hbx.mono (by omega))
      have rk' := rk.to hbx
      have qk : wk.cell? ⟨b0, off + k, none⟩ = some (.string x) := (hbx.cell (p := ⟨b0, off + k, none⟩) hb0).trans q0
      have hzk := hbx.size
      cases eq
      case true =>
        have hres := Lib.hid (hhas.out (hyes.out rfl))
        go_wp2
        go_roundw
        case rel => exact ⟨k + 1, by omega, by go_num, by rw [hres.out]; exact Owns.below hown hbx, hbk⟩
        case measure => simp [intOf]; omega
      case false =>
      have hres := Lib.hid (hins.out q (h1.out rfl) hgt.out)
      have hSm : S.length = m := hm.out.symm
      have hcase : (A3 = none ∧ c3 = 0 ∧ S = []) ∨ ∃ g, A3 = some ⟨g, 0, none⟩ ∧ m ≤ c3 := by
        rcases hown.2 with ⟨e, h0⟩ | ⟨g, cap, cur, e, _, _, hnc, _⟩
        · simp only [Value.slice.injEq] at e
          exact .inl ⟨e.1, e.2.2, List.eq_nil_of_length_eq_zero h0⟩
        · simp only [Value.slice.injEq] at e
          exact .inr ⟨g, e.1, by omega⟩
      rcases hcase with ⟨rfl, rfl, hS0⟩ | ⟨g3, rfl, hmc⟩
      · have hdrop : Hid (S.drop q = []) := by unfold Hid; rw [hS0]; simp
        have hm0 : m = 0 := by rw [← hSm, hS0]; rfl
        subst hm0
        obtain rfl : q = 0 := by omega
        replace hS0 := Lib.hid hS0
        go_upto_region 10 with (at_builtin; go_must (refine Elem.wpList_row strE rfl (.tmp 45) (.tmp 48) rfl wk.heap.size (.slice (some ⟨wk.heap.size, 0, none⟩) 0 0) [] rfl _ _ _ (S.take 0) rfl (Owns.emptyAt wk rfl (Nat.le_refl _)) wk.heap.size ((rk'.headRow (n := 0) hq).below (by repeat (first | exact Below.refl _ _ | assumption | refine Below.drew ?_ | refine below_drewN ?_ _ | refine Below.alloc ?_ (by first | omega | (simp; try omega)) _ | refine Below.setCell ?_ (by first | omega | (simp; try omega)) _ | (refine Below.trans ?_ (Below.mono (by assumption) (by first | omega | (simp; try omega))))))) (by first | omega | (simp; omega) | simp) (by first | omega | (simp; try omega)) ?_; intro v7 w7 hown7 hg7 hat7))
        have hb7 : Below wk.heap.size wk w7 := Below.grown ((Below.refl _ _).alloc (Nat.le_refl _) _) hg7 (by simp) (fun g hg => by cases hg; exact Nat.le_refl _)
        rw [List.nil_append] at hown7
        have hz7 := hb7.size
        have q7 : w7.cell? ⟨b0, off + k, none⟩ = some (.string x) := (hb7.cell (p := ⟨b0, off + k, none⟩) (by show b0 < _; omega)).trans qk
        have hlt7 : b0 < w7.heap.size := by omega
        have htl : (S.take 0).length ≤ 1000000 := by simp
        go_upto_region 11 with (at_builtin; go_must (refine Elem.wpList_one strE rfl (.tmp 50) (.tmp 55) rfl (wk.heap.size) _ (S.take 0) rfl _ _ x rfl ((Owns.alloc hown7 _)) (fun j u hu => by rcases j with _ | _ | _ | j <;> simp [strE, strCell] at hu <;> subst hu <;> go_simp) (by first | omega | (simp; omega)) (by first | omega | (simp; try omega)) ?_); intro v8 w8 hown8 hg8 hat8)
        have hb8 : Below wk.heap.size wk w8 := (hb7.alloc (by omega) _).grown hg8 (by simp; omega) (fun g hg => (Owns.within hown7 hg).1)
        have hz8 := hb8.size
        go_wp2_with (at_builtin; go_must (refine Elem.wpList_row strE rfl (.tmp 57) (.tmp 60) rfl wk.heap.size _ _ rfl none 0 0 (S.drop 0) rfl hown8 wk.heap.size (hdrop.out ▸ RowAt.none_) (by first | omega | (simp; omega) | simp) (by first | omega | (simp; try omega)) ?_; intro v9 w9 hown9 hg9 hat9))
        have hb9 : Below wk.heap.size wk w9 := hb8.grown hg9 (by omega) (fun g hg => (Owns.within hown8 hg).1)
        go_roundw
        case rel => exact ⟨k + 1, by omega, by go_num, by rw [hres.out]; exact Owns.from hown9 (by omega), hbk.trans (hb9.mono (by omega))⟩
        case measure => simp [intOf]; omega
      · go_upto_region 10 with (at_builtin; go_must (refine Elem.wpList_row strE rfl (.tmp 45) (.tmp 48) rfl wk.heap.size (.slice (some ⟨wk.heap.size, 0, none⟩) 0 0) [] rfl _ _ _ (S.take q) rfl (Owns.emptyAt wk rfl (Nat.le_refl _)) wk.heap.size ((rk'.headRow (n := q) hq).below (by repeat (first | exact Below.refl _ _ | assumption | refine Below.drew ?_ | refine below_drewN ?_ _ | refine Below.alloc ?_ (by first | omega | (simp; try omega)) _ | refine Below.setCell ?_ (by first | omega | (simp; try omega)) _ | (refine Below.trans ?_ (Below.mono (by assumption) (by first | omega | (simp; try omega))))))) (by first | omega | (simp; omega) | simp) (by first | omega | (simp; try omega)) ?_; intro v7 w7 hown7 hg7 hat7))
        have hb7 : Below wk.heap.size wk w7 := Below.grown ((Below.refl _ _).alloc (Nat.le_refl _) _) hg7 (by simp) (fun g hg => by cases hg; exact Nat.le_refl _)
        rw [List.nil_append] at hown7
        have hz7 := hb7.size
        have q7 : w7.cell? ⟨b0, off + k, none⟩ = some (.string x) := (hb7.cell (p := ⟨b0, off + k, none⟩) (by show b0 < _; omega)).trans qk
        have hlt7 : b0 < w7.heap.size := by omega
        have htl : (S.take q).length ≤ 1000000 := by simp; omega
        go_upto_region 11 with (at_builtin; go_must (refine Elem.wpList_one strE rfl (.tmp 50) (.tmp 55) rfl (wk.heap.size) _ (S.take q) rfl _ _ x rfl ((Owns.alloc hown7 _)) (fun j u hu => by rcases j with _ | _ | _ | j <;> simp [strE, strCell] at hu <;> subst hu <;> go_simp) (by first | omega | (simp; omega)) (by first | omega | (simp; try omega)) ?_); intro v8 w8 hown8 hg8 hat8)
        have hb8 : Below wk.heap.size wk w8 := (hb7.alloc (by omega) _).grown hg8 (by simp; omega) (fun g hg => (Owns.within hown7 hg).1)
        have hz8 := hb8.size
        have hti := (rk'.below hb8).tailIf (n := q) (c := c3) hq hmc
        obtain ⟨AA, hAA⟩ : ∃ AA : Option Addr, AA = (if c3 = q then some (⟨g3, 0, none⟩ : Addr) else some ⟨g3, 0 + q * 1, none⟩) := ⟨_, rfl⟩
        rw [← hAA] at hti
        have hA2 : (if c3 = q then some (⟨g3, 0, none⟩ : Addr) else some ⟨g3, q, none⟩) = AA := by rw [hAA]; simp
        replace hAA := Lib.hid hAA
        go_wp2_with (at_builtin; go_must (refine Elem.wpList_row strE rfl (.tmp 57) (.tmp 60) rfl wk.heap.size _ _ rfl AA (m - q) (c3 - q) (S.drop q) rfl hown8 wk.heap.size hti (by first | omega | (simp; omega) | simp) (by first | omega | (simp; try omega)) ?_; intro v9 w9 hown9 hg9 hat9))
        have hb9 : Below wk.heap.size wk w9 := hb8.grown hg9 (by omega) (fun g hg => (Owns.within hown8 hg).1)
        go_roundw
        case rel => exact ⟨k + 1, by omega, by go_num, by rw [hres.out]; exact Owns.from hown9 (by omega), hbk.trans (hb9.mono (by omega))⟩
        case measure => simp [intOf]; omega
    · obtain rfl : k = n := by omega
      have ht : l.take k = l := List.take_of_length_le (by have := hl.out; omega)
      rw [ht] at hown
      replace ht := Lib.hid ht
      go_wp2
      go_ret
      exact ⟨_, rfl, hown, hbr⟩
end Go.Proofs.Ytcepdigeimedoaa
