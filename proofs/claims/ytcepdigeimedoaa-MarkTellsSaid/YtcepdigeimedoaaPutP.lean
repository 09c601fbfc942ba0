/-
  The contract of the reference's Put.
-/
import Derived.Test.YtcepdigeimedoaaStrs
namespace Go.Proofs.Ytcepdigeimedoaa
open Go.RowKit

theorem putGo_end (x : ByteArray) (d : Bool) : putGo x d [] = if d then [] else [x] := rfl
theorem putGo_step (x y : ByteArray) (d : Bool) (l : List ByteArray) : putGo x d (y :: l) = (if !d && !sLt y x then [x] else []) ++ (if y = x then [] else [y]) ++ putGo x (d || !sLt y x) l := rfl
theorem sLt_self_ne {y x : ByteArray} (h : y = x) : sLt y x = false := by rw [h]; exact sLt_irrefl x

set_option maxHeartbeats 2000000 in
theorem ref17_Put (A : Option Addr) (n c : Nat) (l : List ByteArray) (x : ByteArray) (w : World) (h : StrsAt w w.heap.size A n l) (hn9 : n ≤ 100000000) :
    Calls Try.prog 109 #[.slice A n c, .string x] w fun e w' => ∃ v, e = .returned v ∧ strE.Own w' w.heap.size v (putS l x) ∧ Below w.heap.size w w' := by
  have hn := h.2.1
  have hl := Lib.hid h.1
  go_enter Try.func109, Try.ntmps109
  go_wp2
  go_loopw [5, 6, 7] (fun v d i wr => ∃ (k : Nat) (dn : Bool) (O : List ByteArray), k ≤ n ∧ i = .int .i64 k ∧ d = .bool dn ∧ strE.Own wr w.heap.size v O ∧ O.length ≤ 2 * k + 1 ∧ Hid (putS l x = O ++ putGo x dn (l.drop k)) ∧ Below w.heap.size w wr) (fun _ _ i _ => n - (intOf i).toNat)
  case atStart => exact ⟨0, false, [], Nat.zero_le _, rfl, rfl, Owns.nil_, by simp, rfl, (by repeat (first | exact Below.refl _ _ | assumption | refine Below.drew ?_ | refine below_drewN ?_ _ | refine Below.alloc ?_ (by first | omega | (simp; try omega)) _ | refine Below.setCell ?_ (by first | omega | (simp; try omega)) _ | (refine Below.trans ?_ (Below.mono (by assumption) (by first | omega | (simp; try omega))))))⟩
  case round =>
    obtain ⟨k, dn, O, hk, rfl, rfl, hown, hO, hres, hbr⟩ := hrel
    have hzr := hbr.size
    by_cases hlt : k < n
    · obtain ⟨b0, off, y, rfl, hb0, hx, q0⟩ := (h.to hbr).str hlt
      have hd := Lib.hid (drop_cons hx)
      have hx0 := Lib.hid hx
      clear hx
      have hst := putGo_step x y dn (l.drop (k + 1))
      rw [← hd.out] at hst
      obtain ⟨lt, hlt'⟩ : ∃ z, z = sLt y x := ⟨_, rfl⟩
      have hcmp : Op.bytesLess y.toList x.toList = lt := hlt'.symm
      rw [← hlt'] at hst
      by_cases he : y = x
      · have hlf : lt = false := by rw [hlt']; exact sLt_self_ne he
        subst hlf
        have hq := str_eq he
        rw [if_pos he] at hst
        replace he := Lib.hid he
        replace hlt' := Lib.hid hlt'
        replace hst := Lib.hid hst
        cases dn
        · go_wp2_with (at_builtin; go_must (refine strE.wpList_one rfl (.tmp 24) (.tmp 26) rfl w.heap.size _ O rfl _ _ x rfl (hown.alloc _) (fun j u hu => by rcases j with _ | j <;> simp [strE, strCell] at hu; subst hu; go_simp) (by first | omega | (simp; omega)) (by first | omega | (simp; try omega)) ?_); intro v1 w1 hown1 hg1 hat1; have hbb1 : Below w.heap.size w w1 := Below.grownOwn (by repeat (first | exact Below.refl _ _ | assumption | refine Below.drew ?_ | refine below_drewN ?_ _ | refine Below.alloc ?_ (by first | omega | (simp; try omega)) _ | refine Below.setCell ?_ (by first | omega | (simp; try omega)) _ | (refine Below.trans ?_ (Below.mono (by assumption) (by first | omega | (simp; try omega)))))) (hown.alloc _) (Nat.le_refl _) (by first | omega | (simp; try omega)) hg1; have q1 := (h.below hbb1).strAt hx0.out)
          go_roundw
          case rel => exact ⟨k + 1, true, O ++ [x], by omega, by go_num, rfl, hown1, by simp; omega, by unfold Hid; rw [hres.out, hst.out]; simp, hbb1⟩
          case measure => simp [intOf]; omega
        · go_wp2_with fail
          go_roundw
          case rel => exact ⟨k + 1, true, O, by omega, by go_num, rfl, hown, by omega, by unfold Hid; rw [hres.out, hst.out]; simp, (by repeat (first | exact Below.refl _ _ | assumption | refine Below.drew ?_ | refine below_drewN ?_ _ | refine Below.alloc ?_ (by first | omega | (simp; try omega)) _ | refine Below.setCell ?_ (by first | omega | (simp; try omega)) _ | (refine Below.trans ?_ (Below.mono (by assumption) (by first | omega | (simp; try omega))))))⟩
          case measure => simp [intOf]; omega
      · have hq := str_ne he
        rw [if_neg he] at hst
        replace he := Lib.hid he
        replace hlt' := Lib.hid hlt'
        replace hst := Lib.hid hst
        cases dn
        · cases lt
          · have tok1 : True := trivial
            go_wp2_with (first
              | (at_builtin; have _t := tok1; go_must (refine strE.wpList_one rfl (.tmp 24) (.tmp 26) rfl w.heap.size _ O rfl _ _ x rfl (hown.alloc _) (fun j u hu => by rcases j with _ | j <;> simp [strE, strCell] at hu; subst hu; go_simp) (by first | omega | (simp; omega)) (by first | omega | (simp; try omega)) ?_); intro v1 w1 hown1 hg1 hat1; have hbb1 : Below w.heap.size w w1 := Below.grownOwn (by repeat (first | exact Below.refl _ _ | assumption | refine Below.drew ?_ | refine below_drewN ?_ _ | refine Below.alloc ?_ (by first | omega | (simp; try omega)) _ | refine Below.setCell ?_ (by first | omega | (simp; try omega)) _ | (refine Below.trans ?_ (Below.mono (by assumption) (by first | omega | (simp; try omega)))))) (hown.alloc _) (Nat.le_refl _) (by first | omega | (simp; try omega)) hg1; have q1 := (h.below hbb1).strAt hx0.out; have hzz1 := hbb1.size; clear tok1 _t)
              | (at_builtin; go_must (refine strE.wpList_one rfl (.tmp 34) (.tmp 39) rfl w.heap.size _ (O ++ [x]) rfl _ _ y rfl (hown1.alloc _) (fun j u hu => by rcases j with _ | j <;> simp [strE, strCell] at hu; subst hu; go_simp) (by first | omega | (simp; omega)) (by first | omega | (simp; try omega)) ?_); intro v2 w2 hown2 hg2 hat2; have hbb2 : Below w.heap.size w w2 := Below.grownOwn (by repeat (first | exact Below.refl _ _ | assumption | refine Below.drew ?_ | refine below_drewN ?_ _ | refine Below.alloc ?_ (by first | omega | (simp; try omega)) _ | refine Below.setCell ?_ (by first | omega | (simp; try omega)) _ | (refine Below.trans ?_ (Below.mono (by assumption) (by first | omega | (simp; try omega)))))) (hown1.alloc _) (Nat.le_refl _) (by first | omega | (simp; try omega)) hg2))
            go_roundw
            case rel => exact ⟨k + 1, true, O ++ [x] ++ [y], by omega, by go_num, rfl, hown2, by simp; omega, by unfold Hid; rw [hres.out, hst.out]; simp, hbb2⟩
            case measure => simp [intOf]; omega
          · go_wp2_with (at_builtin; go_must (refine strE.wpList_one rfl (.tmp 34) (.tmp 39) rfl w.heap.size _ O rfl _ _ y rfl (hown.alloc _) (fun j u hu => by rcases j with _ | j <;> simp [strE, strCell] at hu; subst hu; go_simp) (by first | omega | (simp; omega)) (by first | omega | (simp; try omega)) ?_); intro v2 w2 hown2 hg2 hat2; have hbb2 : Below w.heap.size w w2 := Below.grownOwn (by repeat (first | exact Below.refl _ _ | assumption | refine Below.drew ?_ | refine below_drewN ?_ _ | refine Below.alloc ?_ (by first | omega | (simp; try omega)) _ | refine Below.setCell ?_ (by first | omega | (simp; try omega)) _ | (refine Below.trans ?_ (Below.mono (by assumption) (by first | omega | (simp; try omega)))))) (hown.alloc _) (Nat.le_refl _) (by first | omega | (simp; try omega)) hg2)
            go_roundw
            case rel => exact ⟨k + 1, false, O ++ [y], by omega, by go_num, rfl, hown2, by simp; omega, by unfold Hid; rw [hres.out, hst.out]; simp, hbb2⟩
            case measure => simp [intOf]; omega
        · go_wp2_with (at_builtin; go_must (refine strE.wpList_one rfl (.tmp 34) (.tmp 39) rfl w.heap.size _ O rfl _ _ y rfl (hown.alloc _) (fun j u hu => by rcases j with _ | j <;> simp [strE, strCell] at hu; subst hu; go_simp) (by first | omega | (simp; omega)) (by first | omega | (simp; try omega)) ?_); intro v2 w2 hown2 hg2 hat2; have hbb2 : Below w.heap.size w w2 := Below.grownOwn (by repeat (first | exact Below.refl _ _ | assumption | refine Below.drew ?_ | refine below_drewN ?_ _ | refine Below.alloc ?_ (by first | omega | (simp; try omega)) _ | refine Below.setCell ?_ (by first | omega | (simp; try omega)) _ | (refine Below.trans ?_ (Below.mono (by assumption) (by first | omega | (simp; try omega)))))) (hown.alloc _) (Nat.le_refl _) (by first | omega | (simp; try omega)) hg2)
          go_roundw
          case rel => exact ⟨k + 1, true, O ++ [y], by omega, by go_num, rfl, hown2, by simp; omega, by unfold Hid; rw [hres.out, hst.out]; simp, hbb2⟩
          case measure => simp [intOf]; omega
    · obtain rfl : k = n := by omega
      have hend : Hid (putS l x = O ++ putGo x dn []) := by unfold Hid; rw [hres.out, List.drop_eq_nil_of_le (by have := hl.out; omega)]
      cases dn
      · go_wp2_with (at_builtin; go_must (refine strE.wpList_one rfl (.tmp 43) (.tmp 45) rfl w.heap.size _ O rfl _ _ x rfl (hown.alloc _) (fun j u hu => by rcases j with _ | j <;> simp [strE, strCell] at hu; subst hu; go_simp) (by first | omega | (simp; omega)) (by first | omega | (simp; try omega)) ?_); intro v1 w1 hown1 hg1 hat1; have hbb1 : Below w.heap.size w w1 := Below.grownOwn (by repeat (first | exact Below.refl _ _ | assumption | refine Below.drew ?_ | refine below_drewN ?_ _ | refine Below.alloc ?_ (by first | omega | (simp; try omega)) _ | refine Below.setCell ?_ (by first | omega | (simp; try omega)) _ | (refine Below.trans ?_ (Below.mono (by assumption) (by first | omega | (simp; try omega)))))) (hown.alloc _) (Nat.le_refl _) (by first | omega | (simp; try omega)) hg1)
        go_ret
        exact ⟨_, rfl, by rw [hend.out]; exact hown1, hbb1⟩
      · go_wp2_with fail
        go_ret
        exact ⟨_, rfl, by rw [hend.out, putGo_end]; simpa using hown, (by repeat (first | exact Below.refl _ _ | assumption | refine Below.drew ?_ | refine below_drewN ?_ _ | refine Below.alloc ?_ (by first | omega | (simp; try omega)) _ | refine Below.setCell ?_ (by first | omega | (simp; try omega)) _ | (refine Below.trans ?_ (Below.mono (by assumption) (by first | omega | (simp; try omega))))))⟩

end Go.Proofs.Ytcepdigeimedoaa
