/-
  The methods of a store that change little: refused, settle, names, New, Get, List, Sync, Up, Sound.
-/
import Derived.Test.YtfkonpmnclknaaaStoB
import Derived.Test.YtfkonpmnclknaaaStrs
namespace Go.Proofs.Ytfkonpmnclknaaa
open Go.RowKit Go.Maps
attribute [local go_sem ↓] Go.wp_at_zero Go.wp_at_succ

theorem own_at {b gm sm : Nat} {V : Value} (h : (b :: gm :: sm :: V.ownBlock.toList).Nodup) : b ≠ gm ∧ b ≠ sm ∧ gm ≠ sm ∧ V.ownBlock ≠ some b ∧ V.ownBlock ≠ some gm ∧ V.ownBlock ≠ some sm := by
  simp only [List.nodup_cons, List.mem_cons, not_or] at h
  obtain ⟨⟨h1, h2, h3⟩, ⟨h4, h5⟩, h6, _⟩ := h
  exact ⟨h1, h2, h4, fun e => h3 (by simp [e]), fun e => h5 (by simp [e]), fun e => h6 (by simp [e])⟩
theorem nodup_own {b gm sm : Nat} {V : Value} (h1 : b ≠ gm) (h2 : b ≠ sm) (h3 : gm ≠ sm) (h4 : V.ownBlock ≠ some b) (h5 : V.ownBlock ≠ some gm) (h6 : V.ownBlock ≠ some sm) : (b :: gm :: sm :: V.ownBlock.toList).Nodup := by
  cases hv : V.ownBlock with
  | none => simp [h1, h2, h3]
  | some g =>
    rw [hv] at h4 h5 h6
    have k4 : ¬ b = g := fun e => h4 (by rw [e])
    have k5 : ¬ gm = g := fun e => h5 (by rw [e])
    have k6 : ¬ sm = g := fun e => h6 (by rw [e])
    simp [h1, h2, h3, k4, k5, k6]
/-- A store of the box: all but the box stands. -/
theorem StoIn.set {w : World} {b gm sm N : Nat} {V : Value} {s s' : Sto} (h : StoIn w b gm sm V N s) {o : Nat} {u : Value} (hb : SB (w.setCell ⟨b, o, none⟩ u) b (.map (some gm)) V (.map (some sm)) (.bool s'.down) (.int .i64 s'.refuse) (.int .i64 s'.room))
    (hg : s'.good = s.good) (hs : s'.seen = s.seen) (hw : s'.writes = s.writes) (h1 : -1 ≤ s'.refuse) (h2 : s'.refuse ≤ 9223372036854775807) (h3 : s'.room ≤ 9223372036854775807) (h4 : -1 ≤ s'.room) : StoIn (w.setCell ⟨b, o, none⟩ u) b gm sm V N s' := by
  obtain ⟨a1, a2, a3, a4, a5, a6⟩ := own_at h.ap
  exact
    { box := hb
      good := by rw [hg]; exact h.good.setOther (fun e => a1 e.symm) u
      seen := by rw [hs]; exact h.seen.setOther (fun e => a2 e.symm) u
      own := by rw [hw]; exact h.own.blockS fun i e => Go.Deep.blk_setCell_other _ _ _ _ (fun e' => a4 (by rw [e, e']))
      ap := h.ap
      ng := by rw [hg]; exact h.ng
      ns := by rw [hs]; exact h.ns
      nw := by rw [hw]; exact h.nw
      len := by rw [hw, hg]; exact h.len
      cap := h.cap
      rf := h1, rf9 := h2, rm9 := h3, rm := h4 }

/-- Is a write that is tried refused; what is left. -/
def Sto.refNow (s : Sto) : Bool := decide (s.refuse = 0)
def Sto.tried (s : Sto) : Sto := if s.refuse < 0 then s else { s with refuse := s.refuse - 1 }
theorem tried_good (s : Sto) : s.tried.good = s.good := by unfold Sto.tried; split <;> rfl
theorem tried_seen (s : Sto) : s.tried.seen = s.seen := by unfold Sto.tried; split <;> rfl
theorem tried_writes (s : Sto) : s.tried.writes = s.writes := by unfold Sto.tried; split <;> rfl

set_option maxHeartbeats 1000000 in
theorem store_refused (b gm sm N : Nat) (V : Value) (s : Sto) (w : World) (h : StoIn w b gm sm V N s) :
    Calls Try.prog 66 #[.pointer (some ⟨b, 0, none⟩)] w fun e w' => e = .returned (.bool s.refNow) ∧ StoIn w' b gm sm V N s.tried ∧ But [b] w w' := by
  obtain ⟨c0, c1, c2, c3, c4, c5⟩ := h.box.cells
  have f4 := h.box.frozen 4
  have r1 := h.rf
  have r9 := h.rf9
  have hh := Lib.hid h
  by_cases hr : s.refuse < 0
  · have h1 : s.refNow = false := by unfold Sto.refNow; rw [decide_eq_false_iff_not]; omega
    have h2 : Hid (s.tried = s) := by unfold Hid Sto.tried; rw [if_pos hr]
    rw [h1]
    clear h h1
    go_enter Try.func66, Try.ntmps66
    go_wp2_with fail
    go_ret
    exact ⟨rfl, by rw [h2.out]; exact hh.out, But.refl _ _⟩
  · have h2 : Hid (s.tried = { s with refuse := s.refuse - 1 }) := by unfold Hid Sto.tried; rw [if_neg hr]
    have hbx := h.box.set4 (.int .i64 (s.refuse - 1))
    obtain ⟨d0, d1, d2, d3, d4, d5⟩ := hbx.cells
    replace hbx := Lib.hid hbx
    clear h
    by_cases h0 : s.refuse = 0
    · have h1 : s.refNow = true := by unfold Sto.refNow; rw [decide_eq_true_eq]; omega
      have hlt : s.refuse - 1 < 0 := by omega
      rw [h1]
      replace h1 := Lib.hid h1
      replace h0 := Lib.hid h0
      go_enter Try.func66, Try.ntmps66
      go_wp2_with fail
      go_ret
      exact ⟨rfl, by rw [h2.out]; exact hh.out.set hbx.out rfl rfl rfl (by have := h0.out; simp; omega) (by simp; omega) hh.out.rm9 hh.out.rm, But.of_set _ (by simp)⟩
    · have h1 : s.refNow = false := by unfold Sto.refNow; rw [decide_eq_false_iff_not]; omega
      have hlt : ¬ s.refuse - 1 < 0 := by omega
      rw [h1]
      replace h1 := Lib.hid h1
      replace h0 := Lib.hid h0
      go_enter Try.func66, Try.ntmps66
      go_wp2_with fail
      go_ret
      exact ⟨rfl, by rw [h2.out]; exact hh.out.set hbx.out rfl rfl rfl (by simp; omega) (by simp; omega) hh.out.rm9 hh.out.rm, But.of_set _ (by simp)⟩

def Sto.settled (s : Sto) : Sto := { s with good := s.seen, writes := [] }
set_option maxHeartbeats 1000000 in
theorem store_settle (b : Nat) (F : List Nat) (N : Nat) (s : Sto) (w : World) (h : StoAt w b F N s) :
    Calls Try.prog 82 #[.pointer (some ⟨b, 0, none⟩)] w fun e w' => e = .returned (.tuple #[]) ∧ StoTo b F N s.settled w w' := by
  obtain ⟨gm, sm, V, rfl, h⟩ := h
  obtain ⟨c0, c1, c2, c3, c4, c5⟩ := h.box.cells
  have hcl := maps_CloneS sm N s.seen w h.seen
  go_enter Try.func82, Try.ntmps82
  go_wp2_with fail
  refine hcl.mono ?_
  rintro e w1 ⟨rfl, hm, hz, hb⟩
  have h1 := h.block fun i hi => hb.block i (h.lt i hi)
  obtain ⟨a1, a2, a3, a4, a5, a6⟩ := own_at h.ap
  obtain ⟨d0, d1, d2, d3, d4, d5⟩ := h1.box.cells
  have f0 := h1.box.frozen 0
  have f1 := h1.box.frozen 1
  clear c0 c1 c2 c3 c4 c5
  have hbx := Lib.hid ((h1.box.set0 (.map (some w.heap.size))).set1 (.slice none 0 0))
  have hlt := h.box.lt
  have hls := h.seen.lt
  replace h := Lib.hid h
  replace h1 := Lib.hid h1
  replace hm := Lib.hid hm
  go_wp2_with fail
  go_end0
  refine ⟨rfl, b :: w.heap.size :: sm :: [], ⟨w.heap.size, sm, .slice none 0 0, rfl, ?_⟩, ?_, ?_⟩
  · exact
    { box := hbx.out
      good := (hm.out.setOther (by simp; omega) _).setOther (by simp; omega) _
      seen := (h1.out.seen.setOther (fun e => a2 e.symm) _).setOther (fun e => a2 e.symm) _
      own := Owns.nil_
      ap := nodup_own (by omega) a2 (by omega) (by simp [Value.ownBlock]) (by simp [Value.ownBlock]) (by simp [Value.ownBlock])
      ng := h.out.ns, ns := h.out.ns, nw := by simp [Sto.settled], len := by have := h.out.seen.len; simpa [Sto.settled] using this, cap := h.out.cap, rf := h.out.rf, rf9 := h.out.rf9, rm9 := h.out.rm9, rm := h.out.rm }
  · exact ((But.of_below hb).trans (But.of_set (F := [b]) _ (by simp)) (by simp)).trans (But.of_set (F := [b]) _ (by simp)) (by simp)
  · intro i hi
    simp at hi ⊢
    omega
end Go.Proofs.Ytfkonpmnclknaaa
