/-
  Same, of the stores and of the reference's.
-/
import Derived.Test.YtfkonpmnclknaaaSamA
import Derived.Test.YtfkonpmnclknaaaRefO
import Derived.Test.YtfkonpmnclknaaaTail
namespace Go.Proofs.Ytfkonpmnclknaaa
open Go.RowKit
attribute [local go_sem ↓] Go.wp_at_zero Go.wp_at_succ

def sameS (s t : Sto) : Bool := decide (s.down = t.down) && decide (s.refuse = t.refuse) && decide (s.room = t.room) && decide (s.good = t.good) && decide (s.writes = t.writes)

set_option maxHeartbeats 4000000 in
set_option maxRecDepth 100000 in
theorem store_Same (b c : Nat) (F G : List Nat) (N M : Nat) (s t : Sto) (cs : s.seen = fullGo s.writes s.good) (ct : t.seen = fullGo t.writes t.good) (w : World) (h : StoAt w b F N s) (k : StoAt w c G M t) :
    Calls Try.prog 11 #[.pointer (some ⟨b, 0, none⟩), .pointer (some ⟨c, 0, none⟩)] w fun e w' => e = .returned (.bool (sameS s t)) ∧ Below w.heap.size w w' := by
  obtain ⟨gm, sm, V, rfl, h⟩ := h
  obtain ⟨gn, sn, V', rfl, k⟩ := k
  obtain ⟨A, m, cc, rfl⟩ : ∃ A m c, V = .slice A m c := by obtain ⟨A, c, e⟩ := Owns.form h.own; exact ⟨A, _, c, e⟩
  obtain ⟨A', m', cc', rfl⟩ : ∃ A m c, V' = .slice A m c := by obtain ⟨A, c, e⟩ := Owns.form k.own; exact ⟨A, _, c, e⟩
  have rv := Owns.row (k := 3) (fun x : Wr => writeE.len x) h.own
  have rv' := Owns.row (k := 3) (fun x : Wr => writeE.len x) k.own
  obtain ⟨c0, c1, c2, c3, c4, c5⟩ := h.box.cells
  obtain ⟨d0, d1, d2, d3, d4, d5⟩ := k.box.cells
  have hlb := h.box.lt
  have klb := k.box.lt
  have hlg := h.good.lt
  have klg := k.good.lt
  have hls := h.seen.lt
  have kls := k.seen.lt
  have hG := Lib.hid fun (x : Ext w.heap.size w) => maps_EqualS gm gn N M s.good t.good x.world (h.good.below hlg x.below) (k.good.below klg x.below)
  have hS := Lib.hid fun (x : Ext w.heap.size w) => maps_EqualS sm sn N M s.seen t.seen x.world (h.seen.below hls x.below) (k.seen.below kls x.below)
  have hW := Lib.hid fun (x : Ext w.heap.size w) => slices_EqualW A m cc A' m' cc' s.writes t.writes x.world (rv.to x.below) (rv'.to x.below)
  clear h k rv rv'
  replace cs := Lib.hid cs
  replace ct := Lib.hid ct
  by_cases e1 : s.down = t.down
  case neg =>
    have i1 : (s.down == t.down) = false := by simpa using e1
    have hr : Hid (sameS s t = false) := by unfold Hid sameS; simp [e1]
    replace e1 := Lib.hid e1
    (go_enter Try.func11, Try.ntmps11
     go_upto_region 3 with fail
     (refine wp_region_ext (w.heap.size) (by kernel_rfl) (by kernel_rfl) ?_
      simp only [List.append_eq, List.cons_append, List.nil_append]
      repeat (go_big_quiet_step (first | (go_at_call 58; first | (with_reducible refine Calls.ext (Nat.le_refl _) (hG.out _)) | (with_reducible refine Calls.ext (Nat.le_refl _) (hS.out _))) | (go_at_call 59; with_reducible refine Calls.ext (Nat.le_refl _) (hW.out _))))
      refine wpQuiet_nil ?_
      intro w1 hw'
      have hbw1 := Ext.of hw'
      clear hw'
      obtain ⟨hcw1, hfw1⟩ := bcell hbw1; (try simp only [World.size_drew, World.cell?_drew, World.frozen?_drew, World.heap_drewN, World.cell?_drewN, World.frozen?_drewN] at hcw1 hfw1); have hzw1 := hbw1.size; (try simp at hzw1); (try have hlw1 := (by omega : w.heap.size < w1.heap.size)); (try have hmw1 := (by omega : w.heap.size + 1 < w1.heap.size)); (try have hnw1 := (by omega : w.heap.size + 1 + 1 < w1.heap.size)))
     go_wp2_with fail
     go_ret
     exact ⟨by rw [hr.out]; rfl, hbw1⟩)
  have i1 : (s.down == t.down) = true := by simpa using e1
  replace e1 := Lib.hid e1
  by_cases e2 : s.refuse = t.refuse
  case neg =>
    have i2 : (s.refuse == t.refuse) = false := by simpa using e2
    have hr : Hid (sameS s t = false) := by unfold Hid sameS; simp [e2]
    replace e2 := Lib.hid e2
    (go_enter Try.func11, Try.ntmps11
     go_upto_region 3 with fail
     (refine wp_region_ext (w.heap.size) (by kernel_rfl) (by kernel_rfl) ?_
      simp only [List.append_eq, List.cons_append, List.nil_append]
      repeat (go_big_quiet_step (first | (go_at_call 58; first | (with_reducible refine Calls.ext (Nat.le_refl _) (hG.out _)) | (with_reducible refine Calls.ext (Nat.le_refl _) (hS.out _))) | (go_at_call 59; with_reducible refine Calls.ext (Nat.le_refl _) (hW.out _))))
      refine wpQuiet_nil ?_
      intro w1 hw'
      have hbw1 := Ext.of hw'
      clear hw'
      obtain ⟨hcw1, hfw1⟩ := bcell hbw1; (try simp only [World.size_drew, World.cell?_drew, World.frozen?_drew, World.heap_drewN, World.cell?_drewN, World.frozen?_drewN] at hcw1 hfw1); have hzw1 := hbw1.size; (try simp at hzw1); (try have hlw1 := (by omega : w.heap.size < w1.heap.size)); (try have hmw1 := (by omega : w.heap.size + 1 < w1.heap.size)); (try have hnw1 := (by omega : w.heap.size + 1 + 1 < w1.heap.size)))
     go_wp2_with fail
     go_ret
     exact ⟨by rw [hr.out]; rfl, hbw1⟩)
  have i2 : (s.refuse == t.refuse) = true := by simpa using e2
  replace e2 := Lib.hid e2
  by_cases e3 : s.room = t.room
  case neg =>
    have i3 : (s.room == t.room) = false := by simpa using e3
    have hr : Hid (sameS s t = false) := by unfold Hid sameS; simp [e3]
    replace e3 := Lib.hid e3
    (go_enter Try.func11, Try.ntmps11
     go_upto_region 3 with fail
     (refine wp_region_ext (w.heap.size) (by kernel_rfl) (by kernel_rfl) ?_
      simp only [List.append_eq, List.cons_append, List.nil_append]
      repeat (go_big_quiet_step (first | (go_at_call 58; first | (with_reducible refine Calls.ext (Nat.le_refl _) (hG.out _)) | (with_reducible refine Calls.ext (Nat.le_refl _) (hS.out _))) | (go_at_call 59; with_reducible refine Calls.ext (Nat.le_refl _) (hW.out _))))
      refine wpQuiet_nil ?_
      intro w1 hw'
      have hbw1 := Ext.of hw'
      clear hw'
      obtain ⟨hcw1, hfw1⟩ := bcell hbw1; (try simp only [World.size_drew, World.cell?_drew, World.frozen?_drew, World.heap_drewN, World.cell?_drewN, World.frozen?_drewN] at hcw1 hfw1); have hzw1 := hbw1.size; (try simp at hzw1); (try have hlw1 := (by omega : w.heap.size < w1.heap.size)); (try have hmw1 := (by omega : w.heap.size + 1 < w1.heap.size)); (try have hnw1 := (by omega : w.heap.size + 1 + 1 < w1.heap.size)))
     go_wp2_with fail
     go_ret
     exact ⟨by rw [hr.out]; rfl, hbw1⟩)
  have i3 : (s.room == t.room) = true := by simpa using e3
  replace e3 := Lib.hid e3
  by_cases e4 : s.good = t.good
  case neg =>
    have hr : Hid (sameS s t = false) := by unfold Hid sameS; simp [e4]
    rw [decide_eq_false e4] at hG
    replace e4 := Lib.hid e4
    (go_enter Try.func11, Try.ntmps11
     go_upto_region 3 with fail
     (refine wp_region_ext (w.heap.size) (by kernel_rfl) (by kernel_rfl) ?_
      simp only [List.append_eq, List.cons_append, List.nil_append]
      repeat (go_big_quiet_step (first | (go_at_call 58; first | (with_reducible refine Calls.ext (Nat.le_refl _) (hG.out _)) | (with_reducible refine Calls.ext (Nat.le_refl _) (hS.out _))) | (go_at_call 59; with_reducible refine Calls.ext (Nat.le_refl _) (hW.out _))))
      refine wpQuiet_nil ?_
      intro w1 hw'
      have hbw1 := Ext.of hw'
      clear hw'
      obtain ⟨hcw1, hfw1⟩ := bcell hbw1; (try simp only [World.size_drew, World.cell?_drew, World.frozen?_drew, World.heap_drewN, World.cell?_drewN, World.frozen?_drewN] at hcw1 hfw1); have hzw1 := hbw1.size; (try simp at hzw1); (try have hlw1 := (by omega : w.heap.size < w1.heap.size)); (try have hmw1 := (by omega : w.heap.size + 1 < w1.heap.size)); (try have hnw1 := (by omega : w.heap.size + 1 + 1 < w1.heap.size)))
     go_wp2_with fail
     go_ret
     exact ⟨by rw [hr.out]; rfl, hbw1⟩)
  rw [decide_eq_true e4] at hG
  replace e4 := Lib.hid e4
  by_cases e6 : s.writes = t.writes
  case pos =>
    have e5 : s.seen = t.seen := by rw [cs.out, ct.out, e6, e4.out]
    have hr : Hid (sameS s t = true) := by unfold Hid sameS; simp [e1.out, e2.out, e3.out, e4.out, e6]
    rw [decide_eq_true e5] at hS
    rw [decide_eq_true e6] at hW
    replace e5 := Lib.hid e5
    replace e6 := Lib.hid e6
    (go_enter Try.func11, Try.ntmps11
     go_upto_region 3 with fail
     (refine wp_region_ext (w.heap.size) (by kernel_rfl) (by kernel_rfl) ?_
      simp only [List.append_eq, List.cons_append, List.nil_append]
      repeat (go_big_quiet_step (first | (go_at_call 58; first | (with_reducible refine Calls.ext (Nat.le_refl _) (hG.out _)) | (with_reducible refine Calls.ext (Nat.le_refl _) (hS.out _))) | (go_at_call 59; with_reducible refine Calls.ext (Nat.le_refl _) (hW.out _))))
      refine wpQuiet_nil ?_
      intro w1 hw'
      have hbw1 := Ext.of hw'
      clear hw'
      obtain ⟨hcw1, hfw1⟩ := bcell hbw1; (try simp only [World.size_drew, World.cell?_drew, World.frozen?_drew, World.heap_drewN, World.cell?_drewN, World.frozen?_drewN] at hcw1 hfw1); have hzw1 := hbw1.size; (try simp at hzw1); (try have hlw1 := (by omega : w.heap.size < w1.heap.size)); (try have hmw1 := (by omega : w.heap.size + 1 < w1.heap.size)); (try have hnw1 := (by omega : w.heap.size + 1 + 1 < w1.heap.size)))
     go_wp2_with fail
     go_ret
     exact ⟨by rw [hr.out]; rfl, hbw1⟩)
  have hr : Hid (sameS s t = false) := by unfold Hid sameS; simp [e6]
  rw [decide_eq_false e6] at hW
  replace e6 := Lib.hid e6
  by_cases e5 : s.seen = t.seen
  · rw [decide_eq_true e5] at hS
    replace e5 := Lib.hid e5
    (go_enter Try.func11, Try.ntmps11
     go_upto_region 3 with fail
     (refine wp_region_ext (w.heap.size) (by kernel_rfl) (by kernel_rfl) ?_
      simp only [List.append_eq, List.cons_append, List.nil_append]
      repeat (go_big_quiet_step (first | (go_at_call 58; first | (with_reducible refine Calls.ext (Nat.le_refl _) (hG.out _)) | (with_reducible refine Calls.ext (Nat.le_refl _) (hS.out _))) | (go_at_call 59; with_reducible refine Calls.ext (Nat.le_refl _) (hW.out _))))
      refine wpQuiet_nil ?_
      intro w1 hw'
      have hbw1 := Ext.of hw'
      clear hw'
      obtain ⟨hcw1, hfw1⟩ := bcell hbw1; (try simp only [World.size_drew, World.cell?_drew, World.frozen?_drew, World.heap_drewN, World.cell?_drewN, World.frozen?_drewN] at hcw1 hfw1); have hzw1 := hbw1.size; (try simp at hzw1); (try have hlw1 := (by omega : w.heap.size < w1.heap.size)); (try have hmw1 := (by omega : w.heap.size + 1 < w1.heap.size)); (try have hnw1 := (by omega : w.heap.size + 1 + 1 < w1.heap.size)))
     go_wp2_with fail
     go_ret
     exact ⟨by rw [hr.out]; rfl, hbw1⟩)
  · rw [decide_eq_false e5] at hS
    replace e5 := Lib.hid e5
    (go_enter Try.func11, Try.ntmps11
     go_upto_region 3 with fail
     (refine wp_region_ext (w.heap.size) (by kernel_rfl) (by kernel_rfl) ?_
      simp only [List.append_eq, List.cons_append, List.nil_append]
      repeat (go_big_quiet_step (first | (go_at_call 58; first | (with_reducible refine Calls.ext (Nat.le_refl _) (hG.out _)) | (with_reducible refine Calls.ext (Nat.le_refl _) (hS.out _))) | (go_at_call 59; with_reducible refine Calls.ext (Nat.le_refl _) (hW.out _))))
      refine wpQuiet_nil ?_
      intro w1 hw'
      have hbw1 := Ext.of hw'
      clear hw'
      obtain ⟨hcw1, hfw1⟩ := bcell hbw1; (try simp only [World.size_drew, World.cell?_drew, World.frozen?_drew, World.heap_drewN, World.cell?_drewN, World.frozen?_drewN] at hcw1 hfw1); have hzw1 := hbw1.size; (try simp at hzw1); (try have hlw1 := (by omega : w.heap.size < w1.heap.size)); (try have hmw1 := (by omega : w.heap.size + 1 < w1.heap.size)); (try have hnw1 := (by omega : w.heap.size + 1 + 1 < w1.heap.size)))
     go_wp2_with fail
     go_ret
     exact ⟨by rw [hr.out]; rfl, hbw1⟩)
end Go.Proofs.Ytfkonpmnclknaaa
