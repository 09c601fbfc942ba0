/-
  The contract of the reference's Packs.
-/
import Derived.Test.YtcepdigeimedoaaPutP
import Derived.Test.YtcepdigeimedoaaIdxPacks
namespace Go.Proofs.Ytcepdigeimedoaa
open Go.RowKit
attribute [local go_sem ↓] Go.wp_at_zero Go.wp_at_succ

set_option maxHeartbeats 1000000 in
theorem ref17_Packs (v : Rws) (s : St) (w : World) (h : StAt w w.heap.size v s) :
    Calls Try.prog 82 #[v.val s] w fun e w' => ∃ u, e = .returned (.tuple #[u, .int .i64 (packsRes s).2]) ∧ strE.Own w' w.heap.size u (packsRes s).1 ∧ Below w.heap.size w w' := by
  obtain ⟨k, n, next, sn, cs, ps⟩ := s
  obtain ⟨A1, n1, c1, A2, n2, c2, A3, n3, c3⟩ := v
  obtain ⟨-, h2, h3, hok⟩ := h
  dsimp only at h2 h3 hok
  unfold Rws.val stv
  dsimp only
  have l3 := Lib.hid h3.1
  have b3 := h3.2.1
  have hmay := fun W (hb : Below w.heap.size w W) => ref17_May k n next A1 n1 c1 A2 n2 c2 A3 n3 c3 cs ps W (h2.to hb) (h3.to hb) hok
  unfold stv at hmay
  replace hmay := Lib.hid hmay
  have bs := Lib.hid (BoxAt.new w k n next (.slice A1 n1 c1) (.slice A2 n2 c2) (.slice A3 n3 c3))
  clear hok
  cases hm : mayIdx cs ps
  · have hres : Hid (packsRes ⟨k, n, next, sn, cs, ps⟩ = ([], 4)) := by simp [Hid, packsRes, hm]
    rw [hm] at hmay
    replace hm := Lib.hid hm
    go_enter Try.func82, Try.ntmps82
    go_wp2_with fail
    refine (hmay.out _ (by repeat (first | exact Below.refl _ _ | assumption | refine Below.drew ?_ | refine below_drewN ?_ _ | refine Below.alloc ?_ (by first | omega | (simp; try omega)) _ | refine Below.setCell ?_ (by first | omega | (simp; try omega)) _ | (refine Below.trans ?_ (Below.mono (by assumption) (by first | omega | (simp; try omega))))))).mono ?_
    rintro e w1 ⟨rfl, hb1⟩
    have hz1 := hb1.size
    go_wp2_with fail
    go_ret2
    exact ⟨.slice none 0 0, by rw [hres.out]; rfl, by rw [hres.out]; exact Owns.nil_, (by repeat (first | exact Below.refl _ _ | assumption | refine Below.drew ?_ | refine below_drewN ?_ _ | refine Below.alloc ?_ (by first | omega | (simp; try omega)) _ | refine Below.setCell ?_ (by first | omega | (simp; try omega)) _ | (refine Below.trans ?_ (Below.mono (by assumption) (by first | omega | (simp; try omega))))))⟩
  · have hres : Hid (packsRes ⟨k, n, next, sn, cs, ps⟩ = (setS (ps.map Place.pack), 0)) := by simp [Hid, packsRes, hm]
    have h400 : n3 ≤ 400 := by have := mayIdx_len hm; have := l3.out; omega
    rw [hm] at hmay
    replace hm := Lib.hid hm
    go_enter Try.func82, Try.ntmps82
    go_wp2_with fail
    refine (hmay.out _ (by repeat (first | exact Below.refl _ _ | assumption | refine Below.drew ?_ | refine below_drewN ?_ _ | refine Below.alloc ?_ (by first | omega | (simp; try omega)) _ | refine Below.setCell ?_ (by first | omega | (simp; try omega)) _ | (refine Below.trans ?_ (Below.mono (by assumption) (by first | omega | (simp; try omega))))))).mono ?_
    rintro e w1 ⟨rfl, hb1⟩
    have hz1 := hb1.size
    simp at hz1
    have hbw1 : Below w.heap.size w w1 := (by repeat (first | exact Below.refl _ _ | assumption | refine Below.drew ?_ | refine below_drewN ?_ _ | refine Below.alloc ?_ (by first | omega | (simp; try omega)) _ | refine Below.setCell ?_ (by first | omega | (simp; try omega)) _ | (refine Below.trans ?_ (Below.mono (by assumption) (by first | omega | (simp; try omega))))))
    have h1 := h3.to hbw1
    have bs1 := bs.out.below hb1
    obtain ⟨x0, x1, x2, x3, x4, x5⟩ := bs1.cells
    replace bs1 := Lib.hid bs1
    clear hb1
    go_wp2_with fail
    clear x0 x1 x2 x3 x4 x5
    go_loopw [4, 5] (fun u i wr => ∃ (j : Nat) (A0 : Option Addr) (n0 c0 : Nat), j ≤ n3 ∧ i = .int .i64 j ∧ u = .slice A0 n0 c0 ∧ strE.Own wr w1.heap.size (.slice A0 n0 c0) (setS ((ps.take j).map Place.pack)) ∧ n0 ≤ 1000 + j * 1000 ∧ Below w1.heap.size w1 wr) (fun _ i _ => n3 - (intOf i).toNat)
    case atStart => exact ⟨0, none, 0, 0, Nat.zero_le _, rfl, rfl, Owns.nil_, by omega, (by repeat (first | exact Below.refl _ _ | assumption | refine Below.drew ?_ | refine below_drewN ?_ _ | refine Below.alloc ?_ (by first | omega | (simp; try omega)) _ | refine Below.setCell ?_ (by first | omega | (simp; try omega)) _ | (refine Below.trans ?_ (Below.mono (by assumption) (by first | omega | (simp; try omega))))))⟩
    case round =>
      obtain ⟨j, A0, n0, c0, hj, rfl, rfl, hown, hn0, hbr⟩ := hrel
      have hzr := hbr.size
      obtain ⟨x0, x1, x2, x3, x4, x5⟩ := (bs1.out.below hbr).cells
      by_cases hlt : j < n3
      · obtain ⟨b0, off, p, rfl, hb0, hx, q0, q1, q2⟩ := (h1.to hbr).place hlt
        have htk : Hid (setS ((ps.take (j + 1)).map Place.pack) = putS (setS ((ps.take j).map Place.pack)) p.pack) := by
          unfold Hid
          rw [List.take_add_one, hx]
          simp [setS_snoc]
        clear hx
        have hrow := hown.row strCell_len
        replace hown := Lib.hid hown
        go_wp2_with fail
        refine (ref17_Put A0 n0 c0 _ p.pack wr hrow (by omega)).mono ?_
        rw [← htk.out]
        rintro e w3 ⟨v3, rfl, hown3, hb3⟩
        obtain ⟨A3', n3', c3', rfl, hr3⟩ := hown3.view strCell_len
        have hn3 : n3' ≤ 1000 + (j + 1) * 1000 := by
          have h1 := hr3.1
          have h2 := setS_len ((ps.take (j + 1)).map Place.pack)
          rw [List.length_map, List.length_take] at h2
          omega
        clear hr3
        go_wp2_with fail
        go_roundw
        case rel => exact ⟨j + 1, A3', n3', c3', by omega, by go_num, rfl, hown3.from hzr, hn3, (by repeat (first | exact Below.refl _ _ | assumption | refine Below.drew ?_ | refine below_drewN ?_ _ | refine Below.alloc ?_ (by first | omega | (simp; try omega)) _ | refine Below.setCell ?_ (by first | omega | (simp; try omega)) _ | (refine Below.trans ?_ (Below.mono (by assumption) (by first | omega | (simp; try omega))))))⟩
        case measure => simp [intOf]; omega
      · obtain rfl : j = n3 := by omega
        have htk : Hid ((ps.take j).map Place.pack = ps.map Place.pack) := by unfold Hid; rw [List.take_of_length_le (by have := l3.out; omega)]
        rw [htk.out] at hown
        go_wp2_with fail
        go_ret2
        exact ⟨.slice A0 n0 c0, by rw [hres.out]; rfl, by rw [hres.out]; exact hown.from (by omega), (by repeat (first | exact Below.refl _ _ | assumption | refine Below.drew ?_ | refine below_drewN ?_ _ | refine Below.alloc ?_ (by first | omega | (simp; try omega)) _ | refine Below.setCell ?_ (by first | omega | (simp; try omega)) _ | (refine Below.trans ?_ (Below.mono (by assumption) (by first | omega | (simp; try omega))))))⟩
end Go.Proofs.Ytcepdigeimedoaa
