/-
  The contracts of the references' Put and Roots.
-/
import Derived.Test.YtbhbkllclookhaaStrs
import Derived.Test.YtbhbkllclookhaaRoots
namespace Go.Proofs.Ytbhbkllclookhaa
open Go.RowKit

theorem putGo_end (x : ByteArray) (d : Bool) : putGo x d [] = if d then [] else [x] := rfl
theorem putGo_step (x y : ByteArray) (d : Bool) (l : List ByteArray) : putGo x d (y :: l) = (if !d && !sLt y x then [x] else []) ++ (if y = x then [] else [y]) ++ putGo x (d || !sLt y x) l := rfl
theorem sLt_self_ne {y x : ByteArray} (h : y = x) : sLt y x = false := by rw [h]; exact sLt_irrefl x

set_option maxHeartbeats 2000000 in
theorem ref17_Put (A : Option Addr) (n c : Nat) (l : List ByteArray) (x : ByteArray) (w : World) (h : StrsAt w w.heap.size A n l) (hn9 : n ≤ 100000000) :
    Calls Try.prog 63 #[.slice A n c, .string x] w fun e w' => ∃ v, e = .returned v ∧ strE.Own w' w.heap.size v (putS l x) ∧ Below w.heap.size w w' := by
  have hn := h.2.1
  have hl := Lib.hid h.1
  go_enter Try.func63, Try.ntmps63
  go_wp2
  go_loopw [5, 6, 7] (fun v d i wr => ∃ (k : Nat) (dn : Bool) (O : List ByteArray), k ≤ n ∧ i = .int .i64 k ∧ d = .bool dn ∧ strE.Own wr w.heap.size v O ∧ O.length ≤ 2 * k + 1 ∧ Hid (putS l x = O ++ putGo x dn (l.drop k)) ∧ Below w.heap.size w wr) (fun _ _ i _ => n - (intOf i).toNat)
  case atStart => exact ⟨0, false, [], Nat.zero_le _, rfl, rfl, Owns.nil_, by simp, rfl, (by repeat (first | exact Below.refl _ _ | assumption | refine Below.drew ?_ | refine below_drewN ?_ _ | refine Below.alloc ?_ (by first | omega | (simp; try omega)) _ | refine Below.setCell ?_ (by first | omega | (simp; try omega)) _ | (refine Below.trans ?_ (Below.mono (by assumption) (by first | omega | (simp; try omega))))))⟩
  case round =>
    obtain ⟨k, dn, O, hk, rfl, rfl, hown, hO, hres, hbr⟩ := hrel
    have hzr := hbr.size
    by_cases hlt : k < n
    · obtain ⟨b0, off, y, rfl, hb0, hx, q0⟩ := (h.to hbr).str hlt
      have hd := Lib.hid (drop_cons hx)
      have hx0 := Lib.hid hx
      clear hx
      have hst := putGo_step x y dn (l.drop (k + 1))
      rw [← hd.out] at hst
      obtain ⟨lt, hlt'⟩ : ∃ z, z = sLt y x := ⟨_, rfl⟩
      have hcmp : Op.bytesLess y.toList x.toList = lt := hlt'.symm
      rw [← hlt'] at hst
      by_cases he : y = x
      · have hlf : lt = false := by rw [hlt']; exact sLt_self_ne he
        subst hlf
        have hq := str_eq he
        rw [if_pos he] at hst
        replace he := Lib.hid he
        replace hlt' := Lib.hid hlt'
        replace hst := Lib.hid hst
        cases dn
        · go_wp2_with (at_builtin; go_must (refine strE.wpList_one rfl (.tmp 24) (.tmp 26) rfl w.heap.size _ O rfl _ _ x rfl (hown.alloc _) (fun j u hu => by rcases j with _ | j <;> simp [strE, strCell] at hu; subst hu; go_simp) (by first | omega | (simp; omega)) (by first | omega | (simp; try omega)) ?_); intro v1 w1 hown1 hg1 hat1; have hbb1 : Below w.heap.size w w1 := Below.grownOwn (by repeat (first | exact Below.refl _ _ | assumption | refine Below.drew ?_ | refine below_drewN ?_ _ | refine Below.alloc ?_ (by first | omega | (simp; try omega)) _ | refine Below.setCell ?_ (by first | omega | (simp; try omega)) _ | (refine Below.trans ?_ (Below.mono (by assumption) (by first | omega | (simp; try omega)))))) (hown.alloc _) (Nat.le_refl _) (by first | omega | (simp; try omega)) hg1; have q1 := (h.below hbb1).strAt hx0.out)
          go_roundw
          case rel => exact ⟨k + 1, true, O ++ [x], by omega, by go_num, rfl, hown1, by simp; omega, by unfold Hid; rw [hres.out, hst.out]; simp, hbb1⟩
          case measure => simp [intOf]; omega
        · go_wp2_with fail
          go_roundw
          case rel => exact ⟨k + 1, true, O, by omega, by go_num, rfl, hown, by omega, by unfold Hid; rw [hres.out, hst.out]; simp, (by repeat (first | exact Below.refl _ _ | assumption | refine Below.drew ?_ | refine below_drewN ?_ _ | refine Below.alloc ?_ (by first | omega | (simp; try omega)) _ | refine Below.setCell ?_ (by first | omega | (simp; try omega)) _ | (refine Below.trans ?_ (Below.mono (by assumption) (by first | omega | (simp; try omega))))))⟩
          case measure => simp [intOf]; omega
      · have hq := str_ne he
        rw [if_neg he] at hst
        replace he := Lib.hid he
        replace hlt' := Lib.hid hlt'
        replace hst := Lib.hid hst
        cases dn
        · cases lt
          · have tok1 : True := trivial
            go_wp2_with (first
              | (at_builtin; have _t := tok1; go_must (refine strE.wpList_one rfl (.tmp 24) (.tmp 26) rfl w.heap.size _ O rfl _ _ x rfl (hown.alloc _) (fun j u hu => by rcases j with _ | j <;> simp [strE, strCell] at hu; subst hu; go_simp) (by first | omega | (simp; omega)) (by first | omega | (simp; try omega)) ?_); intro v1 w1 hown1 hg1 hat1; have hbb1 : Below w.heap.size w w1 := Below.grownOwn (by repeat (first | exact Below.refl _ _ | assumption | refine Below.drew ?_ | refine below_drewN ?_ _ | refine Below.alloc ?_ (by first | omega | (simp; try omega)) _ | refine Below.setCell ?_ (by first | omega | (simp; try omega)) _ | (refine Below.trans ?_ (Below.mono (by assumption) (by first | omega | (simp; try omega)))))) (hown.alloc _) (Nat.le_refl _) (by first | omega | (simp; try omega)) hg1; have q1 := (h.below hbb1).strAt hx0.out; have hzz1 := hbb1.size; clear tok1 _t)
              | (at_builtin; go_must (refine strE.wpList_one rfl (.tmp 34) (.tmp 39) rfl w.heap.size _ (O ++ [x]) rfl _ _ y rfl (hown1.alloc _) (fun j u hu => by rcases j with _ | j <;> simp [strE, strCell] at hu; subst hu; go_simp) (by first | omega | (simp; omega)) (by first | omega | (simp; try omega)) ?_); intro v2 w2 hown2 hg2 hat2; have hbb2 : Below w.heap.size w w2 := Below.grownOwn (by repeat (first | exact Below.refl _ _ | assumption | refine Below.drew ?_ | refine below_drewN ?_ _ | refine Below.alloc ?_ (by first | omega | (simp; try omega)) _ | refine Below.setCell ?_ (by first | omega | (simp; try omega)) _ | (refine Below.trans ?_ (Below.mono (by assumption) (by first | omega | (simp; try omega)))))) (hown1.alloc _) (Nat.le_refl _) (by first | omega | (simp; try omega)) hg2))
            go_roundw
            case rel => exact ⟨k + 1, true, O ++ [x] ++ [y], by omega, by go_num, rfl, hown2, by simp; omega, by unfold Hid; rw [hres.out, hst.out]; simp, hbb2⟩
            case measure => simp [intOf]; omega
          · go_wp2_with (at_builtin; go_must (refine strE.wpList_one rfl (.tmp 34) (.tmp 39) rfl w.heap.size _ O rfl _ _ y rfl (hown.alloc _) (fun j u hu => by rcases j with _ | j <;> simp [strE, strCell] at hu; subst hu; go_simp) (by first | omega | (simp; omega)) (by first | omega | (simp; try omega)) ?_); intro v2 w2 hown2 hg2 hat2; have hbb2 : Below w.heap.size w w2 := Below.grownOwn (by repeat (first | exact Below.refl _ _ | assumption | refine Below.drew ?_ | refine below_drewN ?_ _ | refine Below.alloc ?_ (by first | omega | (simp; try omega)) _ | refine Below.setCell ?_ (by first | omega | (simp; try omega)) _ | (refine Below.trans ?_ (Below.mono (by assumption) (by first | omega | (simp; try omega)))))) (hown.alloc _) (Nat.le_refl _) (by first | omega | (simp; try omega)) hg2)
            go_roundw
            case rel => exact ⟨k + 1, false, O ++ [y], by omega, by go_num, rfl, hown2, by simp; omega, by unfold Hid; rw [hres.out, hst.out]; simp, hbb2⟩
            case measure => simp [intOf]; omega
        · go_wp2_with (at_builtin; go_must (refine strE.wpList_one rfl (.tmp 34) (.tmp 39) rfl w.heap.size _ O rfl _ _ y rfl (hown.alloc _) (fun j u hu => by rcases j with _ | j <;> simp [strE, strCell] at hu; subst hu; go_simp) (by first | omega | (simp; omega)) (by first | omega | (simp; try omega)) ?_); intro v2 w2 hown2 hg2 hat2; have hbb2 : Below w.heap.size w w2 := Below.grownOwn (by repeat (first | exact Below.refl _ _ | assumption | refine Below.drew ?_ | refine below_drewN ?_ _ | refine Below.alloc ?_ (by first | omega | (simp; try omega)) _ | refine Below.setCell ?_ (by first | omega | (simp; try omega)) _ | (refine Below.trans ?_ (Below.mono (by assumption) (by first | omega | (simp; try omega)))))) (hown.alloc _) (Nat.le_refl _) (by first | omega | (simp; try omega)) hg2)
          go_roundw
          case rel => exact ⟨k + 1, true, O ++ [y], by omega, by go_num, rfl, hown2, by simp; omega, by unfold Hid; rw [hres.out, hst.out]; simp, hbb2⟩
          case measure => simp [intOf]; omega
    · obtain rfl : k = n := by omega
      have hend : Hid (putS l x = O ++ putGo x dn []) := by unfold Hid; rw [hres.out, List.drop_eq_nil_of_le (by have := hl.out; omega)]
      cases dn
      · go_wp2_with (at_builtin; go_must (refine strE.wpList_one rfl (.tmp 43) (.tmp 45) rfl w.heap.size _ O rfl _ _ x rfl (hown.alloc _) (fun j u hu => by rcases j with _ | j <;> simp [strE, strCell] at hu; subst hu; go_simp) (by first | omega | (simp; omega)) (by first | omega | (simp; try omega)) ?_); intro v1 w1 hown1 hg1 hat1; have hbb1 : Below w.heap.size w w1 := Below.grownOwn (by repeat (first | exact Below.refl _ _ | assumption | refine Below.drew ?_ | refine below_drewN ?_ _ | refine Below.alloc ?_ (by first | omega | (simp; try omega)) _ | refine Below.setCell ?_ (by first | omega | (simp; try omega)) _ | (refine Below.trans ?_ (Below.mono (by assumption) (by first | omega | (simp; try omega)))))) (hown.alloc _) (Nat.le_refl _) (by first | omega | (simp; try omega)) hg1)
        go_ret
        exact ⟨_, rfl, by rw [hend.out]; exact hown1, hbb1⟩
      · go_wp2_with fail
        go_ret
        exact ⟨_, rfl, by rw [hend.out, putGo_end]; simpa using hown, (by repeat (first | exact Below.refl _ _ | assumption | refine Below.drew ?_ | refine below_drewN ?_ _ | refine Below.alloc ?_ (by first | omega | (simp; try omega)) _ | refine Below.setCell ?_ (by first | omega | (simp; try omega)) _ | (refine Below.trans ?_ (Below.mono (by assumption) (by first | omega | (simp; try omega))))))⟩

set_option maxHeartbeats 1000000 in
theorem ref21_Roots (A : Option Addr) (n c : Nat) (l : List Snap) (w : World) (h : SnapsAt w w.heap.size A n l) :
    Calls Try.prog 28 #[.slice A n c] w fun e w' => ∃ v, e = .returned (.tuple #[v, .int .i64 (rootsRes l).2]) ∧ strE.Own w' w.heap.size v (rootsRes l).1 ∧ Below w.heap.size w w' := by
  have hn := h.2.1
  have hl := Lib.hid h.1
  cases hm : mayL l
  · have hres : Hid (rootsRes l = ([], 4)) := by simp [Hid, rootsRes, hm]
    replace hm := Lib.hid hm
    go_enter Try.func28, Try.ntmps28
    go_wp2_with fail
    refine (ref21_May A n c l _ (h.to (by repeat (first | exact Below.refl _ _ | assumption | refine Below.drew ?_ | refine below_drewN ?_ _ | refine Below.alloc ?_ (by first | omega | (simp; try omega)) _ | refine Below.setCell ?_ (by first | omega | (simp; try omega)) _ | (refine Below.trans ?_ (Below.mono (by assumption) (by first | omega | (simp; try omega)))))))).mono ?_
    rw [hm.out]
    rintro e w1 ⟨rfl, hbw1⟩
    go_wp2_with fail
    go_ret2
    exact ⟨.slice none 0 0, by rw [hres.out]; rfl, by rw [hres.out]; exact Owns.nil_, (by repeat (first | exact Below.refl _ _ | assumption | refine Below.drew ?_ | refine below_drewN ?_ _ | refine Below.alloc ?_ (by first | omega | (simp; try omega)) _ | refine Below.setCell ?_ (by first | omega | (simp; try omega)) _ | (refine Below.trans ?_ (Below.mono (by assumption) (by first | omega | (simp; try omega))))))⟩
  · have hres : Hid (rootsRes l = (setS (l.map Snap.root), 0)) := by simp [Hid, rootsRes, hm]
    have hn32 : n ≤ 32 := by have := hl.out; simp [mayL] at hm; omega
    replace hm := Lib.hid hm
    go_enter Try.func28, Try.ntmps28
    go_wp2_with fail
    refine (ref21_May A n c l _ (h.to (by repeat (first | exact Below.refl _ _ | assumption | refine Below.drew ?_ | refine below_drewN ?_ _ | refine Below.alloc ?_ (by first | omega | (simp; try omega)) _ | refine Below.setCell ?_ (by first | omega | (simp; try omega)) _ | (refine Below.trans ?_ (Below.mono (by assumption) (by first | omega | (simp; try omega)))))))).mono ?_
    rw [hm.out]
    rintro e w1 ⟨rfl, hbw1⟩
    have hz1 := hbw1.size
    have h1 := h.to hbw1
    go_wp2_with fail
    go_loopw [4, 5] (fun v i wr => ∃ (k : Nat) (A0 : Option Addr) (n0 c0 : Nat), k ≤ n ∧ i = .int .i64 k ∧ v = .slice A0 n0 c0 ∧ strE.Own wr w1.heap.size (.slice A0 n0 c0) (setS ((l.take k).map Snap.root)) ∧ n0 ≤ 1000 + k * 1000 ∧ Below w1.heap.size w1 wr) (fun _ i _ => n - (intOf i).toNat)
    case atStart => exact ⟨0, none, 0, 0, Nat.zero_le _, rfl, rfl, Owns.nil_, by omega, (by repeat (first | exact Below.refl _ _ | assumption | refine Below.drew ?_ | refine below_drewN ?_ _ | refine Below.alloc ?_ (by first | omega | (simp; try omega)) _ | refine Below.setCell ?_ (by first | omega | (simp; try omega)) _ | (refine Below.trans ?_ (Below.mono (by assumption) (by first | omega | (simp; try omega))))))⟩
    case round =>
      obtain ⟨k, A0, n0, c0, hk, rfl, rfl, hown, hn0, hbr⟩ := hrel
      have hzr := hbr.size
      by_cases hlt : k < n
      · obtain ⟨b0, off, s, rfl, hb0, hx, q0, q1, q2⟩ := (h1.to hbr).snap hlt
        have htk : Hid (setS ((l.take (k + 1)).map Snap.root) = putS (setS ((l.take k).map Snap.root)) s.root) := by
          unfold Hid
          rw [List.take_add_one, hx]
          simp [setS_snoc]
        clear hx
        have hrow := hown.row strCell_len
        replace hown := Lib.hid hown
        go_wp2_with fail
        refine (ref17_Put A0 n0 c0 _ s.root wr hrow (by omega)).mono ?_
        rw [← htk.out]
        rintro e w3 ⟨v3, rfl, hown3, hb3⟩
        obtain ⟨A3, n3, c3, rfl, hr3⟩ := hown3.view strCell_len
        have hn3 : n3 ≤ 1000 + (k + 1) * 1000 := by
          have h1 := hr3.1
          have h2 := setS_len ((l.take (k + 1)).map Snap.root)
          rw [List.length_map, List.length_take] at h2
          omega
        clear hr3
        go_wp2_with fail
        go_roundw
        case rel => exact ⟨k + 1, A3, n3, c3, by omega, by go_num, rfl, hown3.from hzr, hn3, (by repeat (first | exact Below.refl _ _ | assumption | refine Below.drew ?_ | refine below_drewN ?_ _ | refine Below.alloc ?_ (by first | omega | (simp; try omega)) _ | refine Below.setCell ?_ (by first | omega | (simp; try omega)) _ | (refine Below.trans ?_ (Below.mono (by assumption) (by first | omega | (simp; try omega))))))⟩
        case measure => simp [intOf]; omega
      · obtain rfl : k = n := by omega
        have htk : Hid ((l.take k).map Snap.root = l.map Snap.root) := by unfold Hid; rw [List.take_of_length_le (by have := hl.out; omega)]
        rw [htk.out] at hown
        have hbw : Below w.heap.size w wr := (by repeat (first | exact Below.refl _ _ | assumption | refine Below.drew ?_ | refine below_drewN ?_ _ | refine Below.alloc ?_ (by first | omega | (simp; try omega)) _ | refine Below.setCell ?_ (by first | omega | (simp; try omega)) _ | (refine Below.trans ?_ (Below.mono (by assumption) (by first | omega | (simp; try omega))))))
        go_wp2_with fail
        go_ret2
        exact ⟨_, by rw [hres.out]; rfl, by rw [hres.out]; exact hown.from hz1, hbw⟩
end Go.Proofs.Ytbhbkllclookhaa
