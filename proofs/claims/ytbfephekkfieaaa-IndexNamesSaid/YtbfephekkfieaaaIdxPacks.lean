/-
  The contract of index.Packs.
-/
import Derived.Test.YtbfephekkfieaaaCntA
import Derived.Test.YtbfephekkfieaaaFindL
namespace Go.Proofs.Ytbfephekkfieaaa
open Go.RowKit Go.Maps
attribute [local go_sem ↓] Go.wp_at_zero Go.wp_at_succ

/-- What Packs tells of a state. -/
def packsRes (s : St) : List ByteArray × Int := if mayIdx s.cs s.ps then (setS (s.ps.map Place.pack), 0) else ([], 4)
theorem mayIdx_places {cs : List ByteArray} {ps : List Place} (h : mayIdx cs ps = true) : ∀ p ∈ ps, mayPlace p = true := by
  have hl := (mayIdx_len h).1
  simp [mayIdx] at h
  exact chk_places h.1.2 hl
theorem mayPlace_pack {p : Place} (h : mayPlace p = true) : p.pack.size = 32 := by
  simp [mayPlace] at h
  exact h.1.1.1.1.1

set_option maxHeartbeats 1000000 in
theorem index_Packs (v : Rws) (s : St) (w : World) (h : StAt w w.heap.size v s) :
    Calls Try.prog 21 #[v.val s] w fun e w' => ∃ u, e = .returned (.tuple #[u, .int .i64 (packsRes s).2]) ∧ strE.Own w' w.heap.size u (packsRes s).1 ∧ Below w.heap.size w w' := by
  obtain ⟨k, n, next, sn, cs, ps⟩ := s
  obtain ⟨A1, n1, c1, A2, n2, c2, A3, n3, c3⟩ := v
  obtain ⟨-, h2, h3, hok⟩ := h
  dsimp only at h2 h3 hok
  unfold Rws.val stv
  dsimp only
  have l3 := Lib.hid h3.1
  have b3 := h3.2.1
  have hmay := fun W (hb : Below w.heap.size w W) => index_May k n next A1 n1 c1 A2 n2 c2 A3 n3 c3 cs ps W (h2.to hb) (h3.to hb) hok
  unfold stv at hmay
  replace hmay := Lib.hid hmay
  have bs := Lib.hid (BoxAt.new w k n next (.slice A1 n1 c1) (.slice A2 n2 c2) (.slice A3 n3 c3))
  clear hok
  cases hm : mayIdx cs ps
  · have hres : Hid (packsRes ⟨k, n, next, sn, cs, ps⟩ = ([], 4)) := by simp [Hid, packsRes, hm]
    rw [hm] at hmay
    replace hm := Lib.hid hm
    go_enter Try.func21, Try.ntmps21
    go_wp2_with fail
    refine (hmay.out _ (by repeat (first | exact Below.refl _ _ | assumption | refine Below.drew ?_ | refine below_drewN ?_ _ | refine Below.alloc ?_ (by first | omega | (simp; try omega)) _ | refine Below.setCell ?_ (by first | omega | (simp; try omega)) _ | (refine Below.trans ?_ (Below.mono (by assumption) (by first | omega | (simp; try omega))))))).mono ?_
    rintro e w1 ⟨rfl, hb1⟩
    have hz1 := hb1.size
    go_wp2_with fail
    go_ret2
    exact ⟨.slice none 0 0, by rw [hres.out]; rfl, by rw [hres.out]; exact Owns.nil_, (by repeat (first | exact Below.refl _ _ | assumption | refine Below.drew ?_ | refine below_drewN ?_ _ | refine Below.alloc ?_ (by first | omega | (simp; try omega)) _ | refine Below.setCell ?_ (by first | omega | (simp; try omega)) _ | (refine Below.trans ?_ (Below.mono (by assumption) (by first | omega | (simp; try omega))))))⟩
  · have hres : Hid (packsRes ⟨k, n, next, sn, cs, ps⟩ = (setS (ps.map Place.pack), 0)) := by simp [Hid, packsRes, hm]
    have h400 : n3 ≤ 400 := by have := mayIdx_len hm; have := l3.out; omega
    have hpk := Lib.hid (fun p hp => mayPlace_pack (mayIdx_places hm p hp))
    rw [hm] at hmay
    replace hm := Lib.hid hm
    have hmm := @run_makeMap Try.prog
    go_enter Try.func21, Try.ntmps21
    go_wp2_with fail
    refine (hmay.out _ (by repeat (first | exact Below.refl _ _ | assumption | refine Below.drew ?_ | refine below_drewN ?_ _ | refine Below.alloc ?_ (by first | omega | (simp; try omega)) _ | refine Below.setCell ?_ (by first | omega | (simp; try omega)) _ | (refine Below.trans ?_ (Below.mono (by assumption) (by first | omega | (simp; try omega))))))).mono ?_
    rintro e w1 ⟨rfl, hb1⟩
    have hz1 := hb1.size
    simp at hz1
    have hbw1 : Below w.heap.size w w1 := (by repeat (first | exact Below.refl _ _ | assumption | refine Below.drew ?_ | refine below_drewN ?_ _ | refine Below.alloc ?_ (by first | omega | (simp; try omega)) _ | refine Below.setCell ?_ (by first | omega | (simp; try omega)) _ | (refine Below.trans ?_ (Below.mono (by assumption) (by first | omega | (simp; try omega))))))
    have h1 := h3.to hbw1
    obtain ⟨x0, x1, x2, x3, x4, x5⟩ := ((bs.out.below hb1).alloc (.map #[] 0)).cells
    clear hb1
    go_wp2_with fail
    go_loopw [6, 14] (fun _ i wr => ∃ j : Nat, j ≤ n3 ∧ i = .int .i64 j ∧ CntAt wr w1.heap.size ((ps.take j).map Place.pack) ∧ Below w1.heap.size w1 wr) (fun _ i _ => n3 - (intOf i).toNat)
    case atStart => exact ⟨0, Nat.zero_le _, rfl, by simpa using CntAt.made w1, (by repeat (first | exact Below.refl _ _ | assumption | refine Below.drew ?_ | refine below_drewN ?_ _ | refine Below.alloc ?_ (by first | omega | (simp; try omega)) _ | refine Below.setCell ?_ (by first | omega | (simp; try omega)) _ | (refine Below.trans ?_ (Below.mono (by assumption) (by first | omega | (simp; try omega))))))⟩
    case round =>
      obtain ⟨j, hj, rfl, hcnt, hbr⟩ := hrel
      have hzr := hbr.size
      by_cases hlt : j < n3
      · obtain ⟨b0, off, p, rfl, hb0, hx, q0, q1, q2⟩ := (h1.to hbr).place hlt
        have hsz : p.pack.size ≤ maxLen := by rw [hpk.out p (List.mem_of_getElem? hx)]; decide
        have htk : Hid ((ps.take (j + 1)).map Place.pack = (ps.take j).map Place.pack ++ [p.pack]) := by
          unfold Hid
          rw [List.take_add_one, hx]
          simp
        have hlen : ((ps.take j).map Place.pack).length < 1000000000 := by simp; omega
        clear hx
        replace hlen := Lib.hid hlen
        replace hsz := Lib.hid hsz
        go_wp2_with (first
          | (at_lookup; go_must (refine wpList_cnt_lookup _ rfl _ _ rfl w1.heap.size _ rfl (CntAt.alloc hcnt _) p.pack rfl hsz.out ?_); intro c hc9 hc)
          | (at_mapUpdate; go_must (refine wpList_cnt_update _ rfl _ _ _ rfl w1.heap.size _ rfl (CntAt.alloc hcnt _) hlen.out p.pack rfl hsz.out c hc rfl ?_); intro w3 hcnt3 hg3))
        go_roundw
        case rel => exact ⟨j + 1, by omega, by go_num, by rw [htk.out]; exact hcnt3, Below.grown (by repeat (first | exact Below.refl _ _ | assumption | refine Below.drew ?_ | refine below_drewN ?_ _ | refine Below.alloc ?_ (by first | omega | (simp; try omega)) _ | refine Below.setCell ?_ (by first | omega | (simp; try omega)) _ | (refine Below.trans ?_ (Below.mono (by assumption) (by first | omega | (simp; try omega)))))) hg3 (by first | omega | (simp; try omega)) (fun _ hi => by cases hi; exact Nat.le_refl _)⟩
        case measure => simp [intOf]; omega
      · obtain rfl : j = n3 := by omega
        have htk : Hid ((ps.take j).map Place.pack = ps.map Place.pack) := by unfold Hid; rw [List.take_of_length_le (by have := l3.out; omega)]
        rw [htk.out] at hcnt
        go_wp2_with fail
        refine (maps_Keys _ _).mono ?_
        rintro e w2 ⟨rfl, rfl⟩
        go_wp2_with fail
        refine (sorted_keys w1.heap.size _ wr hcnt).mono ?_
        rintro e w3 ⟨u, rfl, hown, hb3⟩
        have hz3 := hb3.size
        have hbw : Below w.heap.size w wr := hbw1.trans (hbr.mono (by omega))
        have hbw3 : Below w.heap.size w w3 := (hbw.alloc (by omega) _).trans (hb3.mono (by omega))
        go_wp2_with fail
        go_ret2
        exact ⟨u, by rw [hres.out]; rfl, by rw [hres.out]; exact (show strE.Own .. from hown).from (by omega), hbw3⟩
end Go.Proofs.Ytbfephekkfieaaa
