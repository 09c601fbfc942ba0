/-
  Same, of the reference's stores.
-/
import Derived.Test.YtfkonpmnclknaaaSamB
import Derived.Test.YtfkonpmnclknaaaRefS
namespace Go.Proofs.Ytfkonpmnclknaaa
open Go.RowKit
attribute [local go_sem ↓] Go.wp_at_zero Go.wp_at_succ

set_option maxHeartbeats 4000000 in
set_option maxRecDepth 100000 in
theorem ref07_Same (b c : Nat) (F G : List Nat) (s t : Sto) (w : World) (h : RefAt w b F s) (k : RefAt w c G t) :
    Calls Try.prog 12 #[.pointer (some ⟨b, 0, none⟩), .pointer (some ⟨c, 0, none⟩)] w fun e w' => e = .returned (.bool (sameS s t)) ∧ Below w.heap.size w w' := by
  obtain ⟨G1, V1, rfl, h⟩ := h
  obtain ⟨G2, V2, rfl, k⟩ := k
  obtain ⟨A, m, cc, rfl⟩ : ∃ A m c, V1 = .slice A m c := by obtain ⟨A, c, e⟩ := Owns.form h.own; exact ⟨A, _, c, e⟩
  obtain ⟨A', m', cc', rfl⟩ : ∃ A m c, V2 = .slice A m c := by obtain ⟨A, c, e⟩ := Owns.form k.own; exact ⟨A, _, c, e⟩
  obtain ⟨A3, m3, cc3, rfl⟩ : ∃ A m c, G1 = .slice A m c := by obtain ⟨A, c, e⟩ := Owns.form h.good; exact ⟨A, _, c, e⟩
  obtain ⟨A4, m4, cc4, rfl⟩ : ∃ A m c, G2 = .slice A m c := by obtain ⟨A, c, e⟩ := Owns.form k.good; exact ⟨A, _, c, e⟩
  have rv := Owns.row (k := 3) (fun x : Wr => wrE.len x) h.own
  have rv' := Owns.row (k := 3) (fun x : Wr => wrE.len x) k.own
  have rg := Owns.row (k := 2) (fun x : Ob => objE.len x) h.good
  have rg' := Owns.row (k := 2) (fun x : Ob => objE.len x) k.good
  obtain ⟨c0, c1, c2, c3, c4⟩ := h.box.cells
  obtain ⟨d0, d1, d2, d3, d4⟩ := k.box.cells
  have hlb := h.box.lt
  have klb := k.box.lt
  have hml : Hid (s.writes.length = m) := rv.1
  have hml' : Hid (t.writes.length = m') := rv'.1
  have hm9 := rv.2.1
  have hG := Lib.hid fun (x : Ext w.heap.size w) => ref07_SameObjs A3 m3 cc3 A4 m4 cc4 s.good t.good x.world (rg.to x.below) (rg'.to x.below)
  clear h k rg rg'
  by_cases e1 : s.down = t.down
  case neg =>
    have i1 : (s.down == t.down) = false := by simpa using e1
    have hr : Hid (sameS s t = false) := by unfold Hid sameS; simp [e1]
    replace e1 := Lib.hid e1
    (go_enter Try.func12, Try.ntmps12
     go_upto_region 1 with fail
     (refine wp_region_ext (w.heap.size) (by kernel_rfl) (by kernel_rfl) ?_
      repeat (go_big_quiet_step ((go_at_call 60; with_reducible refine Calls.ext (Nat.le_refl _) (hG.out _))))
      refine wpQuiet_nil ?_
      intro w1 hw'
      have hbw1 := Ext.of hw'
      clear hw'
      obtain ⟨hcw1, hfw1⟩ := bcell hbw1; (try simp only [World.size_drew, World.cell?_drew, World.frozen?_drew, World.heap_drewN, World.cell?_drewN, World.frozen?_drewN] at hcw1 hfw1); have hzw1 := hbw1.size; (try simp at hzw1); (try have hlw1 := (by omega : w.heap.size < w1.heap.size)); (try have hmw1 := (by omega : w.heap.size + 1 < w1.heap.size)); (try have hnw1 := (by omega : w.heap.size + 1 + 1 < w1.heap.size)))
     go_wp2_with fail
     go_ret
     exact ⟨by rw [hr.out]; rfl, hbw1⟩)
  have i1 : (s.down == t.down) = true := by simpa using e1
  replace e1 := Lib.hid e1
  by_cases e2 : s.refuse = t.refuse
  case neg =>
    have i2 : (s.refuse != t.refuse) = true := by simpa using e2
    have hr : Hid (sameS s t = false) := by unfold Hid sameS; simp [e2]
    replace e2 := Lib.hid e2
    (go_enter Try.func12, Try.ntmps12
     go_upto_region 1 with fail
     (refine wp_region_ext (w.heap.size) (by kernel_rfl) (by kernel_rfl) ?_
      repeat (go_big_quiet_step ((go_at_call 60; with_reducible refine Calls.ext (Nat.le_refl _) (hG.out _))))
      refine wpQuiet_nil ?_
      intro w1 hw'
      have hbw1 := Ext.of hw'
      clear hw'
      obtain ⟨hcw1, hfw1⟩ := bcell hbw1; (try simp only [World.size_drew, World.cell?_drew, World.frozen?_drew, World.heap_drewN, World.cell?_drewN, World.frozen?_drewN] at hcw1 hfw1); have hzw1 := hbw1.size; (try simp at hzw1); (try have hlw1 := (by omega : w.heap.size < w1.heap.size)); (try have hmw1 := (by omega : w.heap.size + 1 < w1.heap.size)); (try have hnw1 := (by omega : w.heap.size + 1 + 1 < w1.heap.size)))
     go_wp2_with fail
     go_ret
     exact ⟨by rw [hr.out]; rfl, hbw1⟩)
  have i2 : (s.refuse != t.refuse) = false := by simpa using e2
  replace e2 := Lib.hid e2
  by_cases e3 : s.room = t.room
  case neg =>
    have i3 : (s.room != t.room) = true := by simpa using e3
    have hr : Hid (sameS s t = false) := by unfold Hid sameS; simp [e3]
    replace e3 := Lib.hid e3
    (go_enter Try.func12, Try.ntmps12
     go_upto_region 1 with fail
     (refine wp_region_ext (w.heap.size) (by kernel_rfl) (by kernel_rfl) ?_
      repeat (go_big_quiet_step ((go_at_call 60; with_reducible refine Calls.ext (Nat.le_refl _) (hG.out _))))
      refine wpQuiet_nil ?_
      intro w1 hw'
      have hbw1 := Ext.of hw'
      clear hw'
      obtain ⟨hcw1, hfw1⟩ := bcell hbw1; (try simp only [World.size_drew, World.cell?_drew, World.frozen?_drew, World.heap_drewN, World.cell?_drewN, World.frozen?_drewN] at hcw1 hfw1); have hzw1 := hbw1.size; (try simp at hzw1); (try have hlw1 := (by omega : w.heap.size < w1.heap.size)); (try have hmw1 := (by omega : w.heap.size + 1 < w1.heap.size)); (try have hnw1 := (by omega : w.heap.size + 1 + 1 < w1.heap.size)))
     go_wp2_with fail
     go_ret
     exact ⟨by rw [hr.out]; rfl, hbw1⟩)
  have i3 : (s.room != t.room) = false := by simpa using e3
  replace e3 := Lib.hid e3
  by_cases e4 : s.good = t.good
  case neg =>
    have hr : Hid (sameS s t = false) := by unfold Hid sameS; simp [e4]
    rw [decide_eq_false e4] at hG
    replace e4 := Lib.hid e4
    (go_enter Try.func12, Try.ntmps12
     go_upto_region 1 with fail
     (refine wp_region_ext (w.heap.size) (by kernel_rfl) (by kernel_rfl) ?_
      repeat (go_big_quiet_step ((go_at_call 60; with_reducible refine Calls.ext (Nat.le_refl _) (hG.out _))))
      refine wpQuiet_nil ?_
      intro w1 hw'
      have hbw1 := Ext.of hw'
      clear hw'
      obtain ⟨hcw1, hfw1⟩ := bcell hbw1; (try simp only [World.size_drew, World.cell?_drew, World.frozen?_drew, World.heap_drewN, World.cell?_drewN, World.frozen?_drewN] at hcw1 hfw1); have hzw1 := hbw1.size; (try simp at hzw1); (try have hlw1 := (by omega : w.heap.size < w1.heap.size)); (try have hmw1 := (by omega : w.heap.size + 1 < w1.heap.size)); (try have hnw1 := (by omega : w.heap.size + 1 + 1 < w1.heap.size)))
     go_wp2_with fail
     go_ret
     exact ⟨by rw [hr.out]; rfl, hbw1⟩)
  rw [decide_eq_true e4] at hG
  replace e4 := Lib.hid e4
  have hrw : Hid (∀ B, decide (s.writes = t.writes) = B → sameS s t = B) := by unfold Hid sameS; intro B hB; simp [e1.out, e2.out, e3.out, e4.out]; simpa using hB
  by_cases hnn : m = m'
  case neg =>
    have hnb : ((m : Int) != (m' : Int)) = true := by rw [bne_iff_ne]; omega
    have hr : Hid (sameS s t = false) := by
      refine hrw.out false ?_
      rw [decide_eq_false_iff_not]
      intro e
      exact hnn (by rw [← hml.out, ← hml'.out, e])
    replace hnn := Lib.hid hnn
    (go_enter Try.func12, Try.ntmps12
     go_upto_region 1 with fail
     (refine wp_region_ext (w.heap.size) (by kernel_rfl) (by kernel_rfl) ?_
      repeat (go_big_quiet_step ((go_at_call 60; with_reducible refine Calls.ext (Nat.le_refl _) (hG.out _))))
      refine wpQuiet_nil ?_
      intro w1 hw'
      have hbw1 := Ext.of hw'
      clear hw'
      obtain ⟨hcw1, hfw1⟩ := bcell hbw1; (try simp only [World.size_drew, World.cell?_drew, World.frozen?_drew, World.heap_drewN, World.cell?_drewN, World.frozen?_drewN] at hcw1 hfw1); have hzw1 := hbw1.size; (try simp at hzw1); (try have hlw1 := (by omega : w.heap.size < w1.heap.size)); (try have hmw1 := (by omega : w.heap.size + 1 < w1.heap.size)); (try have hnw1 := (by omega : w.heap.size + 1 + 1 < w1.heap.size)))
     go_wp2_with fail
     go_ret
     exact ⟨by rw [hr.out]; rfl, hbw1⟩)
  subst hnn
  go_enter Try.func12, Try.ntmps12
  go_upto_region 1 with fail
  (refine wp_region_ext (w.heap.size) (by kernel_rfl) (by kernel_rfl) ?_
   repeat (go_big_quiet_step ((go_at_call 60; with_reducible refine Calls.ext (Nat.le_refl _) (hG.out _))))
   refine wpQuiet_nil ?_
   intro w1 hw'
   have hbw1 := Ext.of hw'
   clear hw'
   obtain ⟨hcw1, hfw1⟩ := bcell hbw1; (try simp only [World.size_drew, World.cell?_drew, World.frozen?_drew, World.heap_drewN, World.cell?_drewN, World.frozen?_drewN] at hcw1 hfw1); have hzw1 := hbw1.size; (try simp at hzw1); (try have hlw1 := (by omega : w.heap.size < w1.heap.size)); (try have hmw1 := (by omega : w.heap.size + 1 < w1.heap.size)); (try have hnw1 := (by omega : w.heap.size + 1 + 1 < w1.heap.size)))
  clear hG i1 i2 i3 c0 c2 c3 c4 d0 d2 d3 d4
  go_wp2_with fail
  go_loopw [5] (fun i wr => ∃ j : Nat, j ≤ m ∧ i = .int .i64 j ∧ Hid (s.writes.take j = t.writes.take j) ∧ Below w.heap.size w wr) (fun i _ => m - (intOf i).toNat)
  case atStart => exact ⟨0, Nat.zero_le _, rfl, by unfold Hid; simp, hbw1⟩
  case round =>
    obtain ⟨j, hj, rfl, heq, hbr⟩ := hrel
    obtain ⟨wp, rfl⟩ : ∃ x : World, x = wr := ⟨_, rfl⟩
    have a1 := (hbr.cell (p := ⟨b, 1, none⟩) hlb).trans c1
    have a2 := (hbr.cell (p := ⟨c, 1, none⟩) klb).trans d1
    clear c1 d1
    by_cases hlt : j < m
    · obtain ⟨b0, off, x, rfl, hb0, hx, q0, q1, q2⟩ := (rv.to hbr).wr hlt
      obtain ⟨b1, off1, y, rfl, hb1, hx1, r0, r1, r2⟩ := (rv'.to hbr).wr hlt
      have hstep : x = y → Hid (s.writes.take (j + 1) = t.writes.take (j + 1)) := fun e => by
        unfold Hid
        rw [List.take_add_one, List.take_add_one, heq.out, hx, hx1, e]
      have hbad : x ≠ y → Hid (sameS s t = false) := fun e => by
        refine hrw.out false ?_
        rw [decide_eq_false_iff_not]
        intro e2
        rw [e2, hx1] at hx
        exact e (Option.some.inj hx).symm
      clear heq
      replace hx := Lib.hid hx
      replace hx1 := Lib.hid hx1
      by_cases e0 : x.name = y.name
      · have i0 := str_eq e0
        by_cases e1 : x.data = y.data
        · have i1 := str_eq e1
          by_cases e2 : x.del = y.del
          · have i2 : (x.del == y.del) = true := by simpa using e2
            have hs := hstep (Wr.ext e0 e1 e2)
            clear hstep hbad
            replace e0 := Lib.hid e0
            replace e1 := Lib.hid e1
            replace e2 := Lib.hid e2
            go_wp2_with fail
            go_quiet (fail)
            go_wp2_with fail
            go_roundw
            case rel => exact ⟨j + 1, by omega, by go_num, hs, (by repeat (first | exact Below.refl _ _ | assumption | refine Below.drew ?_ | refine below_drewN ?_ _ | refine Below.alloc ?_ (by first | omega | (simp; try omega)) _ | refine Below.setCell ?_ (by first | omega | (simp; try omega)) _ | (refine Below.trans ?_ (Below.mono (by assumption) (by first | omega | (simp; try omega))))))⟩
            case measure => simp [intOf]; omega
          · have i2 : (x.del == y.del) = false := by simpa using e2
            have hb := hbad (fun e => e2 (by rw [e]))
            clear hstep hbad
            replace e0 := Lib.hid e0
            replace e1 := Lib.hid e1
            replace e2 := Lib.hid e2
            go_wp2_with fail
            go_quiet (fail)
            go_wp2_with fail
            go_ret
            exact ⟨by rw [hb.out]; rfl, (by repeat (first | exact Below.refl _ _ | assumption | refine Below.drew ?_ | refine below_drewN ?_ _ | refine Below.alloc ?_ (by first | omega | (simp; try omega)) _ | refine Below.setCell ?_ (by first | omega | (simp; try omega)) _ | (refine Below.trans ?_ (Below.mono (by assumption) (by first | omega | (simp; try omega))))))⟩
        · have i1 := str_ne e1
          have hb := hbad (fun e => e1 (by rw [e]))
          clear hstep hbad
          replace e0 := Lib.hid e0
          replace e1 := Lib.hid e1
          go_wp2_with fail
          go_quiet (fail)
          go_wp2_with fail
          go_ret
          exact ⟨by rw [hb.out]; rfl, (by repeat (first | exact Below.refl _ _ | assumption | refine Below.drew ?_ | refine below_drewN ?_ _ | refine Below.alloc ?_ (by first | omega | (simp; try omega)) _ | refine Below.setCell ?_ (by first | omega | (simp; try omega)) _ | (refine Below.trans ?_ (Below.mono (by assumption) (by first | omega | (simp; try omega))))))⟩
      · have i0 := str_ne e0
        have hb := hbad (fun e => e0 (by rw [e]))
        clear hstep hbad
        replace e0 := Lib.hid e0
        go_wp2_with fail
        go_quiet (fail)
        go_wp2_with fail
        go_ret
        exact ⟨by rw [hb.out]; rfl, (by repeat (first | exact Below.refl _ _ | assumption | refine Below.drew ?_ | refine below_drewN ?_ _ | refine Below.alloc ?_ (by first | omega | (simp; try omega)) _ | refine Below.setCell ?_ (by first | omega | (simp; try omega)) _ | (refine Below.trans ?_ (Below.mono (by assumption) (by first | omega | (simp; try omega))))))⟩
    · obtain rfl : j = m := by omega
      have hs : Hid (sameS s t = true) := by
        refine hrw.out true ?_
        rw [decide_eq_true_eq]
        have := heq.out
        rwa [List.take_of_length_le (by have := hml.out; omega), List.take_of_length_le (by have := hml'.out; omega)] at this
      go_wp2_with fail
      go_ret
      exact ⟨by rw [hs.out]; rfl, hbr⟩
end Go.Proofs.Ytfkonpmnclknaaa
