/-
  Which states may be: the contract of the reference's May.
-/
import Derived.Test.YtcepdigeimedoaaIndexA
namespace Go.Proofs.Ytcepdigeimedoaa
open Go.RowKit
attribute [local go_sem ↓] Go.wp_at_zero Go.wp_at_succ

set_option maxHeartbeats 4000000 in
set_option maxRecDepth 100000 in
theorem ref17_May (k n next : Int) (A1 : Option Addr) (n1 c1 : Nat) (A2 : Option Addr) (n2 c2 : Nat) (A3 : Option Addr) (n3 c3 : Nat) (cs : List ByteArray) (ps : List Place) (w : World)
    (h2 : StrsAt w w.heap.size A2 n2 cs) (h3 : PlacesAt w w.heap.size A3 n3 ps) (hok : ∀ p ∈ ps, PlaceOk p) :
    Calls Try.prog 80 #[stv k n next A1 n1 c1 A2 n2 c2 A3 n3 c3] w fun e w' => e = .returned (.bool (mayIdx cs ps)) ∧ Below w.heap.size w w' := by
  have b2 := h2.2.1
  have b3 := h3.2.1
  have l2 := Lib.hid h2.1
  have l3 := Lib.hid h3.1
  unfold stv
  by_cases hlen : n2 = n3
  · by_cases h400 : n2 ≤ 400
    · subst hlen
      have hg1 : ((n2 : Int) != (n2 : Int)) = false := by simp
      have hg2 : decide (400 < n2) = false := by simp; omega
      have hmi : Hid (mayIdx cs ps = (chk none cs ps && apartB ps)) := by
        unfold Hid mayIdx
        rw [l2.out, l3.out]
        simp [h400]
      replace hok := Lib.hid hok
      go_enter Try.func80, Try.ntmps80
      go_wp2_with fail
      go_loopw [3] (fun i wr => ∃ j : Nat, j ≤ n2 ∧ i = .int .i64 j ∧ Hid (chk none cs ps = chk (prevOf cs j) (cs.drop j) (ps.drop j)) ∧ Below (w.heap.size + 1) (w.alloc (stBox k n next A1 n1 c1 A2 n2 c2 A3 n2 c3)) wr) (fun i _ => n2 - (intOf i).toNat)
      case atStart => exact ⟨0, Nat.zero_le _, rfl, rfl, Below.refl _ _⟩
      case round =>
        obtain ⟨j, hk, rfl, hres, hbb⟩ := hrel
        obtain ⟨x0, x1, x2, x3, x4, x5⟩ := stBox_cells hbb
        have hbr : Below w.heap.size w wr := (Below.alloc (Below.refl _ _) (by omega) _).trans (hbb.mono (by omega))
        have hzr := hbr.size
        have hzs : w.heap.size + 1 ≤ wr.heap.size := by simpa using hbb.size
        have hzl : w.heap.size < wr.heap.size := by omega
        by_cases hlt : j < n2
        · obtain ⟨b, off, p, rfl, hb, hp, p0, p1, p2⟩ := (h3.to hbr).place hlt
          obtain ⟨b', off', c, rfl, hb', hc, y0⟩ := (h2.to hbr).str hlt
          have hpok := hok.out p (List.mem_of_getElem? hp)
          replace hc := Lib.hid hc
          replace hp := Lib.hid hp
          by_cases hsz : c.size = 32
          · have hgs : ((c.size : Int) != 32) = false := by simp; omega
            by_cases h0 : j = 0
            · have g0 : decide (0 < j) = false := by simp; omega
              have g0' : decide ((0 : Int) < (j : Int)) = false := by simp; omega
              have hprev : Hid (0 < j → ∃ b, cs[j - 1]? = some b ∧ sLt b c = true) := fun h => absurd h (by omega)
              replace h0 := Lib.hid h0
              by_cases hm : mayPlace p = true
              · have hcall : Hid (∀ W : World, Calls Try.prog 107 #[p.agg] W fun e w' => e = .returned (.bool true) ∧ Below W.heap.size W w') := fun W => by
                  have := ref17_MayPlace p W hpok
                  rw [hm] at this
                  exact this
                have hyes : Hid (chk none cs ps = chk (prevOf cs (j + 1)) (cs.drop (j + 1)) (ps.drop (j + 1))) := by
                  unfold Hid
                  rw [hres.out, chk_yes hc.out hp.out hsz hprev.out hm]
                replace hm := Lib.hid hm
                go_wp2_with fail
                (refine wp_region_ext (wr.heap.size) (by kernel_rfl) (by kernel_rfl) ?_
                 repeat (go_big_quiet_step ((go_at_call 107; refine Calls.ext (Nat.le_refl _) (hcall.out _))))
                 refine wpQuiet_nil ?_
                 intro w1 hw'
                 have hbw1 := Ext.of hw'
                 clear hw'
                 obtain ⟨hcw1, hfw1⟩ := bcell hbw1; (try simp only [World.size_drew, World.cell?_drew, World.frozen?_drew, World.heap_drewN, World.cell?_drewN, World.frozen?_drewN] at hcw1 hfw1); have hzw1 := hbw1.size; (try simp at hzw1); (try have hlw1 := (by omega : w.heap.size < w1.heap.size)); (try have hmw1 := (by omega : w.heap.size + 1 < w1.heap.size)); (try have hnw1 := (by omega : w.heap.size + 1 + 1 < w1.heap.size)))
                go_wp2_with fail
                go_roundw
                case rel => exact ⟨j + 1, by omega, by go_num, hyes, (by repeat (first | exact Below.refl _ _ | assumption | refine Below.drew ?_ | refine below_drewN ?_ _ | refine Below.alloc ?_ (by first | omega | (simp; try omega)) _ | refine Below.setCell ?_ (by first | omega | (simp; try omega)) _ | (refine Below.trans ?_ (Below.mono (by assumption) (by first | omega | (simp; try omega))))))⟩
                case measure => simp [intOf]; omega
              · replace hm : mayPlace p = false := by simpa using hm
                have hcall : Hid (∀ W : World, Calls Try.prog 107 #[p.agg] W fun e w' => e = .returned (.bool false) ∧ Below W.heap.size W w') := fun W => by
                  have := ref17_MayPlace p W hpok
                  rw [hm] at this
                  exact this
                have hno : Hid (mayIdx cs ps = false) := by
                  unfold Hid
                  rw [hmi.out, hres.out, chk_no hc.out hp.out (.inr (.inr hm)), Bool.false_and]
                replace hm := Lib.hid hm
                go_wp2_with fail
                (refine wp_region_ext (wr.heap.size) (by kernel_rfl) (by kernel_rfl) ?_
                 repeat (go_big_quiet_step ((go_at_call 107; refine Calls.ext (Nat.le_refl _) (hcall.out _))))
                 refine wpQuiet_nil ?_
                 intro w1 hw'
                 have hbw1 := Ext.of hw'
                 clear hw'
                 obtain ⟨hcw1, hfw1⟩ := bcell hbw1; (try simp only [World.size_drew, World.cell?_drew, World.frozen?_drew, World.heap_drewN, World.cell?_drewN, World.frozen?_drewN] at hcw1 hfw1); have hzw1 := hbw1.size; (try simp at hzw1); (try have hlw1 := (by omega : w.heap.size < w1.heap.size)); (try have hmw1 := (by omega : w.heap.size + 1 < w1.heap.size)); (try have hnw1 := (by omega : w.heap.size + 1 + 1 < w1.heap.size)))
                go_wp2_with fail
                go_ret
                exact ⟨ret_bool hno.out.symm, (by repeat (first | exact Below.refl _ _ | assumption | refine Below.drew ?_ | refine below_drewN ?_ _ | refine Below.alloc ?_ (by first | omega | (simp; try omega)) _ | refine Below.setCell ?_ (by first | omega | (simp; try omega)) _ | (refine Below.trans ?_ (Below.mono (by assumption) (by first | omega | (simp; try omega))))))⟩
            · have g0 : decide (0 < j) = true := by simp; omega
              have g0' : decide ((0 : Int) < (j : Int)) = true := by simp; omega
              have hi0 : (0 : Int) ≤ (j : Int) - 1 := by omega
              have hi1 : (j : Int) - 1 < (n2 : Int) := by omega
              obtain ⟨q, hq⟩ := getElem_some (l := cs) (i := j - 1) (by have := l2.out; omega)
              have y1 := (h2.to hbr).strAt hq
              replace hq := Lib.hid hq
              by_cases hcmp : sLt q c = true
              · have hprev : Hid (0 < j → ∃ b, cs[j - 1]? = some b ∧ sLt b c = true) := fun h => ⟨q, hq.out, hcmp⟩
                have hcmp' : Op.bytesLess q.toList c.toList = true := hcmp
                by_cases hm : mayPlace p = true
                · have hcall : Hid (∀ W : World, Calls Try.prog 107 #[p.agg] W fun e w' => e = .returned (.bool true) ∧ Below W.heap.size W w') := fun W => by
                    have := ref17_MayPlace p W hpok
                    rw [hm] at this
                    exact this
                  have hyes : Hid (chk none cs ps = chk (prevOf cs (j + 1)) (cs.drop (j + 1)) (ps.drop (j + 1))) := by
                    unfold Hid
                    rw [hres.out, chk_yes hc.out hp.out hsz hprev.out hm]
                  replace hm := Lib.hid hm
                  go_wp2_with fail
                  (refine wp_region_ext (wr.heap.size) (by kernel_rfl) (by kernel_rfl) ?_
                   repeat (go_big_quiet_step ((go_at_call 107; refine Calls.ext (Nat.le_refl _) (hcall.out _))))
                   refine wpQuiet_nil ?_
                   intro w1 hw'
                   have hbw1 := Ext.of hw'
                   clear hw'
                   obtain ⟨hcw1, hfw1⟩ := bcell hbw1; (try simp only [World.size_drew, World.cell?_drew, World.frozen?_drew, World.heap_drewN, World.cell?_drewN, World.frozen?_drewN] at hcw1 hfw1); have hzw1 := hbw1.size; (try simp at hzw1); (try have hlw1 := (by omega : w.heap.size < w1.heap.size)); (try have hmw1 := (by omega : w.heap.size + 1 < w1.heap.size)); (try have hnw1 := (by omega : w.heap.size + 1 + 1 < w1.heap.size)))
                  go_wp2_with fail
                  go_roundw
                  case rel => exact ⟨j + 1, by omega, by go_num, hyes, (by repeat (first | exact Below.refl _ _ | assumption | refine Below.drew ?_ | refine below_drewN ?_ _ | refine Below.alloc ?_ (by first | omega | (simp; try omega)) _ | refine Below.setCell ?_ (by first | omega | (simp; try omega)) _ | (refine Below.trans ?_ (Below.mono (by assumption) (by first | omega | (simp; try omega))))))⟩
                  case measure => simp [intOf]; omega
                · replace hm : mayPlace p = false := by simpa using hm
                  have hcall : Hid (∀ W : World, Calls Try.prog 107 #[p.agg] W fun e w' => e = .returned (.bool false) ∧ Below W.heap.size W w') := fun W => by
                    have := ref17_MayPlace p W hpok
                    rw [hm] at this
                    exact this
                  have hno : Hid (mayIdx cs ps = false) := by
                    unfold Hid
                    rw [hmi.out, hres.out, chk_no hc.out hp.out (.inr (.inr hm)), Bool.false_and]
                  replace hm := Lib.hid hm
                  go_wp2_with fail
                  (refine wp_region_ext (wr.heap.size) (by kernel_rfl) (by kernel_rfl) ?_
                   repeat (go_big_quiet_step ((go_at_call 107; refine Calls.ext (Nat.le_refl _) (hcall.out _))))
                   refine wpQuiet_nil ?_
                   intro w1 hw'
                   have hbw1 := Ext.of hw'
                   clear hw'
                   obtain ⟨hcw1, hfw1⟩ := bcell hbw1; (try simp only [World.size_drew, World.cell?_drew, World.frozen?_drew, World.heap_drewN, World.cell?_drewN, World.frozen?_drewN] at hcw1 hfw1); have hzw1 := hbw1.size; (try simp at hzw1); (try have hlw1 := (by omega : w.heap.size < w1.heap.size)); (try have hmw1 := (by omega : w.heap.size + 1 < w1.heap.size)); (try have hnw1 := (by omega : w.heap.size + 1 + 1 < w1.heap.size)))
                  go_wp2_with fail
                  go_ret
                  exact ⟨ret_bool hno.out.symm, (by repeat (first | exact Below.refl _ _ | assumption | refine Below.drew ?_ | refine below_drewN ?_ _ | refine Below.alloc ?_ (by first | omega | (simp; try omega)) _ | refine Below.setCell ?_ (by first | omega | (simp; try omega)) _ | (refine Below.trans ?_ (Below.mono (by assumption) (by first | omega | (simp; try omega))))))⟩
              · replace hcmp : sLt q c = false := by simpa using hcmp
                have hno : Hid (mayIdx cs ps = false) := by
                  unfold Hid
                  rw [hmi.out, hres.out, chk_no hc.out hp.out (.inr (.inl ⟨by omega, q, hq.out, hcmp⟩)), Bool.false_and]
                have hcmp' : Op.bytesLess q.toList c.toList = false := hcmp
                go_wp2_with fail
                go_quiet (fail)
                go_wp2_with fail
                go_ret
                exact ⟨ret_bool hno.out.symm, (by repeat (first | exact Below.refl _ _ | assumption | refine Below.drew ?_ | refine below_drewN ?_ _ | refine Below.alloc ?_ (by first | omega | (simp; try omega)) _ | refine Below.setCell ?_ (by first | omega | (simp; try omega)) _ | (refine Below.trans ?_ (Below.mono (by assumption) (by first | omega | (simp; try omega))))))⟩
          · have hgs : ((c.size : Int) != 32) = true := by simp; omega
            have hno : Hid (mayIdx cs ps = false) := by
              unfold Hid
              rw [hmi.out, hres.out, chk_no hc.out hp.out (.inl hsz), Bool.false_and]
            go_wp2_with fail
            go_quiet (fail)
            go_wp2_with fail
            go_ret
            exact ⟨ret_bool hno.out.symm, (by repeat (first | exact Below.refl _ _ | assumption | refine Below.drew ?_ | refine below_drewN ?_ _ | refine Below.alloc ?_ (by first | omega | (simp; try omega)) _ | refine Below.setCell ?_ (by first | omega | (simp; try omega)) _ | (refine Below.trans ?_ (Below.mono (by assumption) (by first | omega | (simp; try omega))))))⟩
        · obtain rfl : j = n2 := by omega
          have hyes : Hid (chk none cs ps = true) := by
            unfold Hid
            rw [hres.out]
            exact chk_end l2.out.symm
          go_wp2_with fail
          refine (ref17_common A3 _ c3 ps wr (h3.to hbr) (by omega) (chk_places hyes.out (by rw [l2.out, l3.out]))).mono ?_
          rintro e w1 ⟨rfl, hb1⟩
          go_wp2_with fail
          go_ret
          exact ⟨ret_bool (by rw [hmi.out, hyes.out, Bool.true_and]), (by repeat (first | exact Below.refl _ _ | assumption | refine Below.drew ?_ | refine below_drewN ?_ _ | refine Below.alloc ?_ (by first | omega | (simp; try omega)) _ | refine Below.setCell ?_ (by first | omega | (simp; try omega)) _ | (refine Below.trans ?_ (Below.mono (by assumption) (by first | omega | (simp; try omega))))))⟩
    · have hno : Hid (mayIdx cs ps = false) := by
        unfold Hid mayIdx
        rw [l2.out]
        simp [h400]
      subst hlen
      have hg1 : ((n2 : Int) != (n2 : Int)) = false := by simp
      have hg2 : decide (400 < n2) = true := by simp; omega
      go_enter Try.func80, Try.ntmps80
      go_wp2_with fail
      go_ret
      exact ⟨ret_bool hno.out.symm, (by repeat (first | exact Below.refl _ _ | assumption | refine Below.drew ?_ | refine below_drewN ?_ _ | refine Below.alloc ?_ (by first | omega | (simp; try omega)) _ | refine Below.setCell ?_ (by first | omega | (simp; try omega)) _ | (refine Below.trans ?_ (Below.mono (by assumption) (by first | omega | (simp; try omega))))))⟩
  · have hno : Hid (mayIdx cs ps = false) := by
      unfold Hid mayIdx
      rw [l2.out, l3.out]
      simp [hlen]
    have hg1 : ((n2 : Int) != (n3 : Int)) = true := by simp; omega
    go_enter Try.func80, Try.ntmps80
    go_wp2_with fail
    go_ret
    exact ⟨ret_bool hno.out.symm, (by repeat (first | exact Below.refl _ _ | assumption | refine Below.drew ?_ | refine below_drewN ?_ _ | refine Below.alloc ?_ (by first | omega | (simp; try omega)) _ | refine Below.setCell ?_ (by first | omega | (simp; try omega)) _ | (refine Below.trans ?_ (Below.mono (by assumption) (by first | omega | (simp; try omega))))))⟩
end Go.Proofs.Ytcepdigeimedoaa
