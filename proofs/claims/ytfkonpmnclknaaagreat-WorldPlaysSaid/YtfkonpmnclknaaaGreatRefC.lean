/-
  The reference's Crash.
-/
import Derived.Test.YtfkonpmnclknaaaGreatRefP
import Derived.Deep.DeepCutAuto
namespace Go.Proofs.YtfkonpmnclknaaaGreat
open Go.RowKit
attribute [local go_sem ↓] Go.wp_at_zero Go.wp_at_succ

def cutW (x : Wr) (k : Int) : Wr := if x.del = true then x else ⟨x.name, cutB x.data k, false⟩
/-- The writes that a crash leaves. -/
def crashW : List Wr → List Int → List Wr
  | [], _ => []
  | _ :: _, [] => []
  | x :: ws, k :: ks => if k < 0 then crashW ws ks else cutW x k :: crashW ws ks
theorem crashW_none : ∀ ws : List Wr, crashW ws [] = []
  | [] => rfl
  | _ :: _ => rfl
theorem crashW_snoc : ∀ {ws : List Wr} {ks : List Int} {j : Nat} {x : Wr} {k : Int}, ws[j]? = some x → ks[j]? = some k → crashW (ws.take (j + 1)) ks = crashW (ws.take j) ks ++ (if k < 0 then [] else [cutW x k])
  | [], _, _, _, _, h, _ => by simp at h
  | _ :: _, [], _, _, _, _, h => by simp at h
  | y :: ws, i :: ks, 0, x, k, h, h' => by
    simp at h h'
    subst h h'
    simp [crashW]
  | y :: ws, i :: ks, j + 1, x, k, h, h' => by
    have ih := crashW_snoc (ws := ws) (ks := ks) (j := j) (x := x) (k := k) (by simpa using h) (by simpa using h')
    simp only [List.take_succ_cons, crashW]
    split
    · exact ih
    · rw [ih]; rfl
theorem crashW_end : ∀ {ws : List Wr} {ks : List Int} {j : Nat}, (ws.length ≤ j ∨ ks.length ≤ j) → crashW (ws.take j) ks = crashW ws ks
  | [], ks, j, _ => by simp
  | y :: ws, [], j, _ => by rw [crashW_none, crashW_none]
  | y :: ws, i :: ks, 0, h => by simp at h
  | y :: ws, i :: ks, j + 1, h => by
    have ih := crashW_end (ws := ws) (ks := ks) (j := j) (by simpa using h)
    simp only [List.take_succ_cons, crashW, ih]
theorem fullO_cut (g : List Ob) (x : Wr) {k : Int} (hk : ¬ k < 0) : fullO g (cutW x k) = keptO g x k := by
  unfold fullO cutW keptO
  rw [if_neg hk]
  cases hd : x.del <;> simp [hd]
theorem fullGo_crashW : ∀ (ws : List Wr) (ks : List Int) (g : List Ob), fullGo (crashW ws ks) g = crashGo ws ks g
  | [], _, _ => rfl
  | _ :: _, [], _ => rfl
  | x :: ws, k :: ks, g => by
    simp only [crashW, crashGo]
    split
    · rename_i h
      rw [fullGo_crashW ws ks g, show keptO g x k = g from by unfold keptO; rw [if_pos h]]
    · rename_i h
      show fullGo (crashW ws ks) (fullO g (cutW x k)) = _
      rw [fullO_cut g x h, fullGo_crashW]
theorem crashW_len : ∀ (ws : List Wr) (ks : List Int), (crashW ws ks).length ≤ ws.length
  | [], _ => Nat.le_refl _
  | _ :: _, [] => Nat.zero_le _
  | x :: ws, k :: ks => by
    have := crashW_len ws ks
    simp only [crashW]
    split
    · simp; omega
    · simpa using this
theorem cutW_ok {x : Wr} {k : Int} (h : OkO (x.name, x.data)) : OkO ((cutW x k).name, (cutW x k).data) := by
  unfold cutW
  split
  · exact h
  · exact ⟨h.1, Nat.le_trans (cutB_size _ _) h.2⟩
theorem crashW_ok : ∀ {ws : List Wr} {ks : List Int}, (∀ x ∈ ws, OkO (x.name, x.data)) → ∀ x ∈ crashW ws ks, OkO (x.name, x.data)
  | [], _, _, x, hx => by simp [crashW] at hx
  | _ :: _, [], _, x, hx => by simp [crashW] at hx
  | y :: ws, k :: ks, h, x, hx => by
    have ih := crashW_ok (ws := ws) (ks := ks) (fun z hz => h z (List.mem_cons_of_mem _ hz)) x
    simp only [crashW] at hx
    split at hx
    · exact ih hx
    · rcases List.mem_cons.1 hx with rfl | hx
      · exact cutW_ok (h y List.mem_cons_self)
      · exact ih hx

set_option maxHeartbeats 4000000 in
set_option maxRecDepth 100000 in
theorem ref07_Crash (b : Nat) (F : List Nat) (N : Nat) (s : Sto) (hs : StoOk N s) (A : Option Addr) (n c : Nat) (keep : List Int) (w : World) (h : RefAt w b F s) (hk : IntsAt w w.heap.size A n keep) (hkb : 0 < n → ∀ b' off, A = some ⟨b', off, none⟩ → b' ∉ F) :
    Calls Tryz.prog 54 #[.pointer (some ⟨b, 0, none⟩), .slice A n c] w fun e w' => e = .returned (.tuple #[]) ∧ RefTo b F (s.crash keep) w w' := by
  obtain ⟨G, V, rfl, h⟩ := h
  obtain ⟨A2, m2, c2, rfl⟩ : ∃ A m c, V = .slice A m c := by obtain ⟨A, c, e⟩ := Owns.form h.own; exact ⟨A, _, c, e⟩
  have hkb1 : 0 < n → ∀ b' off, A = some ⟨b', off, none⟩ → b' ∉ [b] := fun h0 b' off e => by have := hkb h0 b' off e; simp at this ⊢; exact this.1
  have hvb1 : ∀ b' off, A2 = some ⟨b', off, none⟩ → b' ∉ [b] := fun b' off e => by
    subst e
    have h2 := h.ap_at.2.1
    rcases h.own.2 with ⟨e, _⟩ | ⟨g, _, _, e, _⟩
    · cases e
    · cases e
      simp [Value.ownBlock] at h2 ⊢
      exact h2
  have rv := Owns.row (k := 3) (fun x => wrE.len x) h.own
  have hm2 : m2 ≤ 1000000 := by have := rv.1; have := hs.len; have := hs.cap; omega
  have hn9 := hk.2.1
  have hml := Lib.hid rv.1
  have hnl := Lib.hid hk.1
  have rvh := Lib.hid rv
  have rkh := Lib.hid hk
  have hx1 := h.box.set1 (.slice none 0 0)
  have f1 := h.box.frozen 1
  have hlb := h.box.lt
  obtain ⟨c0, c1, _, _, _⟩ := h.box.cells
  have hh := Lib.hid h
  have hsh := Lib.hid hs
  have hcl : ∀ j, (crashW (s.writes.take j) keep).length ≤ 1000000 := fun j => by
    have h1 := crashW_len (s.writes.take j) keep
    have h2 : (s.writes.take j).length ≤ s.writes.length := by simp; omega
    have := hs.len
    have := hs.cap
    omega
  replace hkb1 := Lib.hid hkb1
  replace hvb1 := Lib.hid hvb1
  replace hcl := Lib.hid hcl
  clear h hk hkb hs rv
  go_enter Tryz.func54, Tryz.ntmps54
  go_wp2_with fail
  have hb1 : But [b] w (w.setCell ⟨b, 1, none⟩ (.slice none 0 0)) := But.of_set _ (by simp)
  generalize w.setCell ⟨b, 1, none⟩ (.slice none 0 0) = w1 at hx1 hb1 ⊢
  clear c0 c1 f1
  go_loopw [5, 6] (fun ti _ wr => ∃ (j : Nat) (A3 : Option Addr) (m3 c3 : Nat), j ≤ m2 ∧ ti = .int .i64 j ∧ RB wr b G (.slice A3 m3 c3) (.bool s.down) (.int .i64 s.refuse) (.int .i64 s.room) ∧ wrE.Own wr w.heap.size (.slice A3 m3 c3) (crashW (s.writes.take j) keep) ∧ But [b] w wr) (fun ti _ _ => m2 - (intOf ti).toNat)
  case atStart => exact ⟨0, none, 0, 0, Nat.zero_le _, rfl, hx1, Owns.nil_, hb1⟩
  case round =>
    obtain ⟨j, A3, m3, c3, hj, rfl, hbx, hown, hbt⟩ := hrel
    obtain ⟨wp, rfl⟩ : ∃ x : World, x = wr := ⟨_, rfl⟩
    have hzp := hbt.size
    obtain ⟨d0, d1, _, _, _⟩ := hbx.cells
    by_cases hlt : j < m2
    · obtain ⟨b1, o1, x, rfl, hb9, hx, q0, q1, q2⟩ := (rvh.out.but hbt (Nat.le_refl _) hvb1.out).wr hlt
      by_cases hjn : j < n
      · obtain ⟨b2, o2, k, rfl, hb2, hk, p0⟩ := (rkh.out.but0 hbt (Nat.le_refl _) hkb1.out).int hjn
        have hst := Lib.hid (crashW_snoc hx hk)
        replace hx := Lib.hid hx
        replace hk := Lib.hid hk
        by_cases hk0 : k < 0
        · have hst2 : Hid (crashW (s.writes.take (j + 1)) keep = crashW (s.writes.take j) keep) := by unfold Hid; rw [hst.out, if_pos hk0, List.append_nil]
          clear hst
          go_wp2_with fail
          go_roundw
          case rel => exact ⟨j + 1, A3, m3, c3, by omega, by go_num, hbx, by rw [hst2.out]; exact hown, hbt⟩
          case measure => simp [intOf]; omega
        have hst2 : Hid (crashW (s.writes.take (j + 1)) keep = crashW (s.writes.take j) keep ++ [cutW x k]) := by unfold Hid; rw [hst.out, if_neg hk0]
        clear hst
        go_upto_region 7 with fail
        have hlw : (crashW (s.writes.take j) keep).length ≤ 1000000000 := Nat.le_trans (hcl.out j) (by omega)
        have hBA0 : Below wp.heap.size wp (wp.alloc (.cells #[.string x.name, .string x.data, .bool x.del] 115)) := (Below.refl _ wp).alloc (Nat.le_refl _) _
        have y0 := newCell wp #[.string x.name, .string x.data, .bool x.del] 115 (0, 0) 0
        have y1 := newCell wp #[.string x.name, .string x.data, .bool x.del] 115 (0, 0) 1
        have y2 := newCell wp #[.string x.name, .string x.data, .bool x.del] 115 (0, 0) 2
        have y9 := heap_alloc_new wp (.cells #[.string x.name, .string x.data, .bool x.del] 115)
        have yz : (wp.alloc (.cells #[.string x.name, .string x.data, .bool x.del] 115)).heap.size = wp.heap.size + 1 := by simp
        have yk := (hBA0.cell (p := ⟨b2, o2 + j, none⟩) (by show b2 < _; omega)).trans p0
        generalize (wp.alloc (.cells #[.string x.name, .string x.data, .bool x.del] 115)) = wA at hBA0 y0 y1 y2 y9 yz yk ⊢
        clear q0 q1 q2 p0 d0 d1
        cases hdl : x.del
        · have hst3 : Hid (crashW (s.writes.take (j + 1)) keep = crashW (s.writes.take j) keep ++ [⟨x.name, cutB x.data k, false⟩]) := by unfold Hid; rw [hst2.out]; unfold cutW; rw [hdl]; rfl
          rw [hdl] at y2 y9
          replace hdl := Lib.hid hdl
          by_cases hks : k < (x.data.size : Int)
          · go_upto_region 8 with (go_quiet (fail))
            have hcl2 : (cutB x.data k) = x.data.extract 0 k.toNat := by
              unfold cutB
              rw [show min k (x.data.size : Int) = k by omega]
            have hk1 : 0 ≤ k := by omega
            have hk2 : k ≤ (x.data.size : Int) := by omega
            have hb2w : b2 < wp.heap.size := by omega
            obtain ⟨cd, hcd⟩ : ∃ cd, cd = cutB x.data k := ⟨_, rfl⟩
            rw [← hcd] at hst3 hcl2
            replace hcd := Lib.hid hcd
            have hB8 : Below wp.heap.size wp (wA.drewN nq) := (by repeat (first | exact Below.refl _ _ | assumption | refine Below.drew ?_ | refine below_drewN ?_ _ | refine Below.alloc ?_ (by first | omega | (simp; try omega)) _ | refine Below.setCell ?_ (by first | omega | (simp; try omega)) _ | (refine Below.trans ?_ (Below.mono (by assumption) (by first | omega | (simp; try omega))))))
            have t0 : (wA.drewN nq).cell? ⟨wp.heap.size, 0, none⟩ = some (.string x.name) := y0
            have t1 : (wA.drewN nq).cell? ⟨wp.heap.size, 1, none⟩ = some (.string x.data) := y1
            have t2 : (wA.drewN nq).cell? ⟨wp.heap.size, 2, none⟩ = some (.bool false) := y2
            have t3 : (wA.drewN nq).cell? ⟨b2, o2 + j, none⟩ = some (.int .i64 k) := yk
            have t9 : wp.heap.size < (wA.drewN nq).heap.size := by show _ < wA.heap.size; omega
            have t8 : (wA.drewN nq).heap[wp.heap.size]? = some (.cells #[.string x.name, .string x.data, .bool false] 115) := y9
            clear y0 y1 y2 y9 yk
            generalize wA.drewN nq = W8 at hB8 t0 t1 t2 t3 t8 t9 ⊢
            have hb2W : b2 < W8.heap.size := by omega
            (refine region_ext_tail 8 (W8.heap.size) (by kernel_rfl) (by kernel_rfl) ?_
             simp only [List.take_succ_cons, List.take_zero, List.drop_succ_cons, List.drop_zero]
             repeat (go_big_quiet_step (fail))
             refine wpQuiet_nil ?_
             intro W7 hw'
             have hbW7 := Ext.of hw'
             clear hw'
             obtain ⟨hcW7, hfW7⟩ := bcell hbW7; (try simp only [World.size_drew, World.cell?_drew, World.frozen?_drew, World.heap_drewN, World.cell?_drewN, World.frozen?_drewN] at hcW7 hfW7); have hzW7 := hbW7.size; (try simp at hzW7); (try have hlW7 := (by omega : w.heap.size < W7.heap.size)); (try have hmW7 := (by omega : w.heap.size + 1 < W7.heap.size)); (try have hnW7 := (by omega : w.heap.size + 1 + 1 < W7.heap.size)))
            have p8 := blkP t8 hbW7
            have d1 : W7.cell? ⟨wp.heap.size, 1, none⟩ = some (.string x.data) := cell_of_row W7 wp.heap.size 1 _ _ _ p8
            have f1 : W8.frozen? ⟨wp.heap.size, 1, none⟩ = false := by unfold World.frozen?; simp [t8]
            have p9 : (W7.setCell ⟨wp.heap.size, 1, none⟩ (.string cd)).heap[wp.heap.size]? = some (.cells #[.string x.name, .string cd, .bool false] 115) := (heap_setCellS p8 (.string cd)).trans rfl
            have hB9 : Below wp.heap.size wp (W7.setCell ⟨wp.heap.size, 1, none⟩ (.string cd)) := (hB8.trans (hbW7.mono (by omega))).setCell (p := ⟨wp.heap.size, 1, none⟩) (Nat.le_refl _) _
            have t9b : wp.heap.size < (W7.setCell ⟨wp.heap.size, 1, none⟩ (.string cd)).heap.size := by simp; omega
            clear t0 t2 t3
            rw [hcl2] at p9 hB9 t9b
            replace hst3 : Hid (crashW (s.writes.take (j + 1)) keep = crashW (s.writes.take j) keep ++ [⟨x.name, x.data.extract 0 k.toNat, false⟩]) := by rw [← hcl2]; exact hst3
            replace p8 := Lib.hid p8
            replace t8 := Lib.hid t8
            replace p9 := Lib.hid p9
            go_upto_region 9 with fail
            clear t1
            have t0 := cell_of_row _ _ 0 _ _ _ p9.out
            have t1 := cell_of_row _ _ 1 _ _ _ p9.out
            have t2 := cell_of_row _ _ 2 _ _ _ p9.out
            clear p9 d1 f1
            generalize W7.setCell ⟨wp.heap.size, 1, none⟩ (.string (x.data.extract 0 k.toNat)) = W9 at hB9 t0 t1 t2 t9b ⊢
            generalize x.data.extract 0 k.toNat = cd at *
            have hx9 := hbx.below hbx.lt hB9
            have o9 := hown.below hB9
            have hz9 := hB9.size
            obtain ⟨_, v1, _, _, _⟩ := hx9.cells
            have nb : (Value.slice A3 m3 c3).ownBlock ≠ some b := fun e => by have := (hown.within e).1; omega
            have np : (Value.slice A3 m3 c3).ownBlock ≠ some wp.heap.size := fun e => by have := (hown.within e).2; omega
            have hlb9 := hx9.lt
            have hA : (W9.drew.alloc (.cells #[.string x.name, .string cd, .bool false] 115)).cell? ⟨b, 1, none⟩ = some (.slice A3 m3 c3) ∧ (W9.drew.alloc (.cells #[.string x.name, .string cd, .bool false] 115)).cell? ⟨wp.heap.size, 0, none⟩ = some (.string x.name) ∧ (W9.drew.alloc (.cells #[.string x.name, .string cd, .bool false] 115)).cell? ⟨wp.heap.size, 1, none⟩ = some (.string cd) ∧ (W9.drew.alloc (.cells #[.string x.name, .string cd, .bool false] 115)).cell? ⟨wp.heap.size, 2, none⟩ = some (.bool false) :=
              ⟨(World.cell?_alloc_lt _ _ _ (by simp; omega)).trans v1, (World.cell?_alloc_lt _ _ _ (by simp; omega)).trans t0, (World.cell?_alloc_lt _ _ _ (by simp; omega)).trans t1, (World.cell?_alloc_lt _ _ _ (by simp; omega)).trans t2⟩
            have hS : ∀ (W W' : World), wp.heap.size < W.heap.size → W.grownBy W' (Value.slice A3 m3 c3).ownBlock → (W.cell? ⟨b, 1, none⟩ = some (.slice A3 m3 c3) ∧ W.cell? ⟨wp.heap.size, 0, none⟩ = some (.string x.name) ∧ W.cell? ⟨wp.heap.size, 1, none⟩ = some (.string cd) ∧ W.cell? ⟨wp.heap.size, 2, none⟩ = some (.bool false)) → W'.cell? ⟨b, 1, none⟩ = some (.slice A3 m3 c3) ∧ W'.cell? ⟨wp.heap.size, 0, none⟩ = some (.string x.name) ∧ W'.cell? ⟨wp.heap.size, 1, none⟩ = some (.string cd) ∧ W'.cell? ⟨wp.heap.size, 2, none⟩ = some (.bool false) := fun W W' hz hg ⟨s1, s2, s3, s4⟩ =>
              ⟨(World.cell?_of_block (a := ⟨b, 1, none⟩) (hg.block b (by omega) (fun e => nb e.symm))).trans s1, (World.cell?_of_block (a := ⟨wp.heap.size, 0, none⟩) (hg.block wp.heap.size hz (fun e => np e.symm))).trans s2, (World.cell?_of_block (a := ⟨wp.heap.size, 1, none⟩) (hg.block wp.heap.size hz (fun e => np e.symm))).trans s3, (World.cell?_of_block (a := ⟨wp.heap.size, 2, none⟩) (hg.block wp.heap.size hz (fun e => np e.symm))).trans s4⟩
            have hBA : Below W9.heap.size W9 (W9.drew.alloc (.cells #[.string x.name, .string cd, .bool false] 115)) := (Below.refl _ W9).drew.alloc (Nat.le_refl _) _
            have ho3 := o9.below hBA
            have hx3 := hx9.below hx9.lt hBA
            refine region_held_tail 8 (fun W : World => W.cell? ⟨b, 1, none⟩ = some (.slice A3 m3 c3) ∧ W.cell? ⟨wp.heap.size, 0, none⟩ = some (.string x.name) ∧ W.cell? ⟨wp.heap.size, 1, none⟩ = some (.string cd) ∧ W.cell? ⟨wp.heap.size, 2, none⟩ = some (.bool false)) (by kernel_rfl) (by kernel_rfl) ?_
            have hHeld : (fun W : World => W.cell? ⟨b, 1, none⟩ = some (.slice A3 m3 c3) ∧ W.cell? ⟨wp.heap.size, 0, none⟩ = some (.string x.name) ∧ W.cell? ⟨wp.heap.size, 1, none⟩ = some (.string cd) ∧ W.cell? ⟨wp.heap.size, 2, none⟩ = some (.bool false)) W9.drew := ⟨v1, t0, t1, t2⟩
            (refine HT.takeL (i := 0) (v := ?_) rfl (by kernel_rfl) (fun _ _ _ h => h) (Or.inl ⟨by rfl, ?_⟩) (by assumption) ?_
             rotate_left
             · (intro w hSw; (try dsimp only at hSw); go_simp; (try with_reducible rfl))
             try simp only [Act.put, List.setIfInBounds_toArray, List.set_cons_zero, List.set_cons_succ])
            (refine HT.takeL (i := 1) (v := ?_) rfl (by kernel_rfl) (fun _ _ _ h => h) (Or.inl ⟨by rfl, ?_⟩) (by assumption) ?_
             rotate_left
             · (intro w hSw; (try dsimp only at hSw); go_simp; (try with_reducible rfl))
             try simp only [Act.put, List.setIfInBounds_toArray, List.set_cons_zero, List.set_cons_succ])
            (refine HT.takeL (i := 2) (v := ?_) rfl (by kernel_rfl) (fun _ _ _ h => h) (Or.inl ⟨by rfl, ?_⟩) (by assumption) ?_
             rotate_left
             · (intro w hSw; (try dsimp only at hSw); go_simp; (try with_reducible rfl))
             try simp only [Act.put, List.setIfInBounds_toArray, List.set_cons_zero, List.set_cons_succ])
            (refine HT.takeL (i := 3) (v := ?_) rfl (by kernel_rfl) (fun _ _ _ h => h) (Or.inl ⟨by rfl, ?_⟩) (by assumption) ?_
             rotate_left
             · (intro w hSw; (try dsimp only at hSw); go_simp; (try with_reducible rfl))
             try simp only [Act.put, List.setIfInBounds_toArray, List.set_cons_zero, List.set_cons_succ])
            (refine HT.takeL (i := 4) (v := ?_) rfl (by kernel_rfl) (fun _ _ _ h => h) (Or.inl ⟨by rfl, ?_⟩) (by assumption) ?_
             rotate_left
             · (intro w hSw; (try dsimp only at hSw); go_simp; (try with_reducible rfl))
             try simp only [Act.put, List.setIfInBounds_toArray, List.set_cons_zero, List.set_cons_succ])
            (refine HT.takeL (i := 5) (v := ?_) rfl (by kernel_rfl) (fun _ _ _ h => h) (Or.inl ⟨by rfl, ?_⟩) (by assumption) ?_
             rotate_left
             · (intro w hSw; (try dsimp only at hSw); go_simp; (try with_reducible rfl))
             try simp only [Act.put, List.setIfInBounds_toArray, List.set_cons_zero, List.set_cons_succ])
            (refine HT.onlyL (i := 6) rfl (by kernel_rfl) (fun K hK => ?_)
             go_simp
             refine hK.out _ _ ?_ (fun hHeld => ?_)
             · (exact hA)
             clear hK K
             try simp only [Act.put, List.setIfInBounds_toArray, List.set_cons_zero, List.set_cons_succ])
            (refine HT.onlyL (i := 7) rfl (by kernel_rfl) (fun K hK => ?_)
             ((apply Elem.step_one wrE (s := .tmp 63) (x := .tmp 65) (base := w.heap.size) (l := crashW (s.writes.take j) keep) (y := (⟨x.name, cd, false⟩ : Wr)); (case' hgd => rfl); (case' ho => rfl); (case' hs => rfl); (case' hx => rfl); (case' hown => exact (ho3)); (case' hy => exact (fun j u hu => by rcases j with _ | _ | _ | j <;> simp [wrE, Wr.cells] at hu <;> subst hu <;> first | (go_simp; done) | exact newCell _ _ _ _ _)); (case' hl => exact hlw); (case' hbase => exact (by first | omega | (simp; try omega)))); intro v' w4 ho4 hg4 hat4)
             refine hK.out _ _ ?_ (fun hHeld => ?_)
             · (exact hS _ _ (by simp; omega) hg4 hA)
             clear hK K
             try simp only [Act.put, List.setIfInBounds_toArray, List.set_cons_zero, List.set_cons_succ])
            refine HT.tail (by kernel_rfl) ?_
            simp only [List.drop_succ_cons, List.drop_zero]
            obtain ⟨A9, m9, c9, rfl⟩ : ∃ A m c, v' = .slice A m c := by obtain ⟨A, c, e⟩ := Owns.form ho4; exact ⟨A, _, c, e⟩
            have hx4 := hx3.grown hg4 nb
            have f4 := hx4.frozen 1
            obtain ⟨_, g1, _, _, _⟩ := hx4.cells
            have hfb := Lib.hid (hx4.set1 (.slice A9 m9 c9))
            have hfo : Hid (wrE.Own (w4.setCell ⟨b, 1, none⟩ (.slice A9 m9 c9)) w.heap.size (.slice A9 m9 c9) (crashW (s.writes.take (j + 1)) keep)) := by
              unfold Hid
              rw [hst3.out]
              exact ho4.blockS fun i e => Go.Deep.blk_setCell_other _ _ _ _ (fun e' => by have := (ho4.within e).1; have e2 : i = b := e'; omega)
            have hfu : Hid (But [b] w (w4.setCell ⟨b, 1, none⟩ (.slice A9 m9 c9))) := by
              unfold Hid
              refine (((hbt.trans (But.of_below (F := []) hB9) (by simp)).trans (But.of_below (F := []) hBA) (by simp)).trans (But.of_grown (F := (Value.slice A3 m3 c3).ownBlock.toList) hg4 (fun g e => Option.mem_toList.2 e)) (fun i hi => .inr (hown.within (i := i) (by simpa using hi)).1)).trans (But.of_set (F := [b]) _ (by simp)) (by simp)
            replace hx4 := Lib.hid hx4
            clear hHeld hA ho3 hS hx3 hx9 o9
            go_wp2_with fail
            go_roundw
            case rel => exact ⟨j + 1, A9, m9, c9, by omega, by go_num, hfb.out, hfo.out, hfu.out⟩
            case measure => simp [intOf]; omega
          · have hcu : cutB x.data k = x.data := by
              unfold cutB
              rw [show (min k (x.data.size : Int)).toNat = x.data.size by omega]
              exact ByteArray.extract_zero_size
            rw [hcu] at hst3
            replace hcu := Lib.hid hcu
            go_upto_region 9 with (go_quiet (fail))
            have hB9 : Below wp.heap.size wp (wA.drewN nq) := (by repeat (first | exact Below.refl _ _ | assumption | refine Below.drew ?_ | refine below_drewN ?_ _ | refine Below.alloc ?_ (by first | omega | (simp; try omega)) _ | refine Below.setCell ?_ (by first | omega | (simp; try omega)) _ | (refine Below.trans ?_ (Below.mono (by assumption) (by first | omega | (simp; try omega))))))
            have t0 : (wA.drewN nq).cell? ⟨wp.heap.size, 0, none⟩ = some (.string x.name) := y0
            have t1 : (wA.drewN nq).cell? ⟨wp.heap.size, 1, none⟩ = some (.string x.data) := y1
            have t2 : (wA.drewN nq).cell? ⟨wp.heap.size, 2, none⟩ = some (.bool false) := y2
            have t9 : wp.heap.size < (wA.drewN nq).heap.size := by show _ < wA.heap.size; omega
            clear y0 y1 y2 y9 yk
            generalize wA.drewN nq = W9 at hB9 t0 t1 t2 t9 ⊢
            have hx9 := hbx.below hbx.lt hB9
            have o9 := hown.below hB9
            have hz9 := hB9.size
            obtain ⟨_, v1, _, _, _⟩ := hx9.cells
            have nb : (Value.slice A3 m3 c3).ownBlock ≠ some b := fun e => by have := (hown.within e).1; omega
            have np : (Value.slice A3 m3 c3).ownBlock ≠ some wp.heap.size := fun e => by have := (hown.within e).2; omega
            have hlb9 := hx9.lt
            have hA : (W9.drew.alloc (.cells #[.string x.name, .string x.data, .bool false] 115)).cell? ⟨b, 1, none⟩ = some (.slice A3 m3 c3) ∧ (W9.drew.alloc (.cells #[.string x.name, .string x.data, .bool false] 115)).cell? ⟨wp.heap.size, 0, none⟩ = some (.string x.name) ∧ (W9.drew.alloc (.cells #[.string x.name, .string x.data, .bool false] 115)).cell? ⟨wp.heap.size, 1, none⟩ = some (.string x.data) ∧ (W9.drew.alloc (.cells #[.string x.name, .string x.data, .bool false] 115)).cell? ⟨wp.heap.size, 2, none⟩ = some (.bool false) :=
              ⟨(World.cell?_alloc_lt _ _ _ (by simp; omega)).trans v1, (World.cell?_alloc_lt _ _ _ (by simp; omega)).trans t0, (World.cell?_alloc_lt _ _ _ (by simp; omega)).trans t1, (World.cell?_alloc_lt _ _ _ (by simp; omega)).trans t2⟩
            have hS : ∀ (W W' : World), wp.heap.size < W.heap.size → W.grownBy W' (Value.slice A3 m3 c3).ownBlock → (W.cell? ⟨b, 1, none⟩ = some (.slice A3 m3 c3) ∧ W.cell? ⟨wp.heap.size, 0, none⟩ = some (.string x.name) ∧ W.cell? ⟨wp.heap.size, 1, none⟩ = some (.string x.data) ∧ W.cell? ⟨wp.heap.size, 2, none⟩ = some (.bool false)) → W'.cell? ⟨b, 1, none⟩ = some (.slice A3 m3 c3) ∧ W'.cell? ⟨wp.heap.size, 0, none⟩ = some (.string x.name) ∧ W'.cell? ⟨wp.heap.size, 1, none⟩ = some (.string x.data) ∧ W'.cell? ⟨wp.heap.size, 2, none⟩ = some (.bool false) := fun W W' hz hg ⟨s1, s2, s3, s4⟩ =>
              ⟨(World.cell?_of_block (a := ⟨b, 1, none⟩) (hg.block b (by omega) (fun e => nb e.symm))).trans s1, (World.cell?_of_block (a := ⟨wp.heap.size, 0, none⟩) (hg.block wp.heap.size hz (fun e => np e.symm))).trans s2, (World.cell?_of_block (a := ⟨wp.heap.size, 1, none⟩) (hg.block wp.heap.size hz (fun e => np e.symm))).trans s3, (World.cell?_of_block (a := ⟨wp.heap.size, 2, none⟩) (hg.block wp.heap.size hz (fun e => np e.symm))).trans s4⟩
            have hBA : Below W9.heap.size W9 (W9.drew.alloc (.cells #[.string x.name, .string x.data, .bool false] 115)) := (Below.refl _ W9).drew.alloc (Nat.le_refl _) _
            have ho3 := o9.below hBA
            have hx3 := hx9.below hx9.lt hBA
            refine region_held_tail 8 (fun W : World => W.cell? ⟨b, 1, none⟩ = some (.slice A3 m3 c3) ∧ W.cell? ⟨wp.heap.size, 0, none⟩ = some (.string x.name) ∧ W.cell? ⟨wp.heap.size, 1, none⟩ = some (.string x.data) ∧ W.cell? ⟨wp.heap.size, 2, none⟩ = some (.bool false)) (by kernel_rfl) (by kernel_rfl) ?_
            have hHeld : (fun W : World => W.cell? ⟨b, 1, none⟩ = some (.slice A3 m3 c3) ∧ W.cell? ⟨wp.heap.size, 0, none⟩ = some (.string x.name) ∧ W.cell? ⟨wp.heap.size, 1, none⟩ = some (.string x.data) ∧ W.cell? ⟨wp.heap.size, 2, none⟩ = some (.bool false)) W9.drew := ⟨v1, t0, t1, t2⟩
            (refine HT.takeL (i := 0) (v := ?_) rfl (by kernel_rfl) (fun _ _ _ h => h) (Or.inl ⟨by rfl, ?_⟩) (by assumption) ?_
             rotate_left
             · (intro w hSw; (try dsimp only at hSw); go_simp; (try with_reducible rfl))
             try simp only [Act.put, List.setIfInBounds_toArray, List.set_cons_zero, List.set_cons_succ])
            (refine HT.takeL (i := 1) (v := ?_) rfl (by kernel_rfl) (fun _ _ _ h => h) (Or.inl ⟨by rfl, ?_⟩) (by assumption) ?_
             rotate_left
             · (intro w hSw; (try dsimp only at hSw); go_simp; (try with_reducible rfl))
             try simp only [Act.put, List.setIfInBounds_toArray, List.set_cons_zero, List.set_cons_succ])
            (refine HT.takeL (i := 2) (v := ?_) rfl (by kernel_rfl) (fun _ _ _ h => h) (Or.inl ⟨by rfl, ?_⟩) (by assumption) ?_
             rotate_left
             · (intro w hSw; (try dsimp only at hSw); go_simp; (try with_reducible rfl))
             try simp only [Act.put, List.setIfInBounds_toArray, List.set_cons_zero, List.set_cons_succ])
            (refine HT.takeL (i := 3) (v := ?_) rfl (by kernel_rfl) (fun _ _ _ h => h) (Or.inl ⟨by rfl, ?_⟩) (by assumption) ?_
             rotate_left
             · (intro w hSw; (try dsimp only at hSw); go_simp; (try with_reducible rfl))
             try simp only [Act.put, List.setIfInBounds_toArray, List.set_cons_zero, List.set_cons_succ])
            (refine HT.takeL (i := 4) (v := ?_) rfl (by kernel_rfl) (fun _ _ _ h => h) (Or.inl ⟨by rfl, ?_⟩) (by assumption) ?_
             rotate_left
             · (intro w hSw; (try dsimp only at hSw); go_simp; (try with_reducible rfl))
             try simp only [Act.put, List.setIfInBounds_toArray, List.set_cons_zero, List.set_cons_succ])
            (refine HT.takeL (i := 5) (v := ?_) rfl (by kernel_rfl) (fun _ _ _ h => h) (Or.inl ⟨by rfl, ?_⟩) (by assumption) ?_
             rotate_left
             · (intro w hSw; (try dsimp only at hSw); go_simp; (try with_reducible rfl))
             try simp only [Act.put, List.setIfInBounds_toArray, List.set_cons_zero, List.set_cons_succ])
            (refine HT.onlyL (i := 6) rfl (by kernel_rfl) (fun K hK => ?_)
             go_simp
             refine hK.out _ _ ?_ (fun hHeld => ?_)
             · (exact hA)
             clear hK K
             try simp only [Act.put, List.setIfInBounds_toArray, List.set_cons_zero, List.set_cons_succ])
            (refine HT.onlyL (i := 7) rfl (by kernel_rfl) (fun K hK => ?_)
             ((apply Elem.step_one wrE (s := .tmp 63) (x := .tmp 65) (base := w.heap.size) (l := crashW (s.writes.take j) keep) (y := (⟨x.name, x.data, false⟩ : Wr)); (case' hgd => rfl); (case' ho => rfl); (case' hs => rfl); (case' hx => rfl); (case' hown => exact (ho3)); (case' hy => exact (fun j u hu => by rcases j with _ | _ | _ | j <;> simp [wrE, Wr.cells] at hu <;> subst hu <;> first | (go_simp; done) | exact newCell _ _ _ _ _)); (case' hl => exact hlw); (case' hbase => exact (by first | omega | (simp; try omega)))); intro v' w4 ho4 hg4 hat4)
             refine hK.out _ _ ?_ (fun hHeld => ?_)
             · (exact hS _ _ (by simp; omega) hg4 hA)
             clear hK K
             try simp only [Act.put, List.setIfInBounds_toArray, List.set_cons_zero, List.set_cons_succ])
            refine HT.tail (by kernel_rfl) ?_
            simp only [List.drop_succ_cons, List.drop_zero]
            obtain ⟨A9, m9, c9, rfl⟩ : ∃ A m c, v' = .slice A m c := by obtain ⟨A, c, e⟩ := Owns.form ho4; exact ⟨A, _, c, e⟩
            have hx4 := hx3.grown hg4 nb
            have f4 := hx4.frozen 1
            obtain ⟨_, g1, _, _, _⟩ := hx4.cells
            have hfb := Lib.hid (hx4.set1 (.slice A9 m9 c9))
            have hfo : Hid (wrE.Own (w4.setCell ⟨b, 1, none⟩ (.slice A9 m9 c9)) w.heap.size (.slice A9 m9 c9) (crashW (s.writes.take (j + 1)) keep)) := by
              unfold Hid
              rw [hst3.out]
              exact ho4.blockS fun i e => Go.Deep.blk_setCell_other _ _ _ _ (fun e' => by have := (ho4.within e).1; have e2 : i = b := e'; omega)
            have hfu : Hid (But [b] w (w4.setCell ⟨b, 1, none⟩ (.slice A9 m9 c9))) := by
              unfold Hid
              refine (((hbt.trans (But.of_below (F := []) hB9) (by simp)).trans (But.of_below (F := []) hBA) (by simp)).trans (But.of_grown (F := (Value.slice A3 m3 c3).ownBlock.toList) hg4 (fun g e => Option.mem_toList.2 e)) (fun i hi => .inr (hown.within (i := i) (by simpa using hi)).1)).trans (But.of_set (F := [b]) _ (by simp)) (by simp)
            replace hx4 := Lib.hid hx4
            clear hHeld hA ho3 hS hx3 hx9 o9
            go_wp2_with fail
            go_roundw
            case rel => exact ⟨j + 1, A9, m9, c9, by omega, by go_num, hfb.out, hfo.out, hfu.out⟩
            case measure => simp [intOf]; omega
        · have hst3 : Hid (crashW (s.writes.take (j + 1)) keep = crashW (s.writes.take j) keep ++ [⟨x.name, x.data, true⟩]) := by
            unfold Hid
            rw [hst2.out]
            unfold cutW
            rw [if_pos hdl, ← hdl]
          rw [hdl] at y2 y9
          replace hdl := Lib.hid hdl
          go_upto_region 9 with (go_quiet (fail))
          have hB9 : Below wp.heap.size wp (wA.drewN nq) := (by repeat (first | exact Below.refl _ _ | assumption | refine Below.drew ?_ | refine below_drewN ?_ _ | refine Below.alloc ?_ (by first | omega | (simp; try omega)) _ | refine Below.setCell ?_ (by first | omega | (simp; try omega)) _ | (refine Below.trans ?_ (Below.mono (by assumption) (by first | omega | (simp; try omega))))))
          have t0 : (wA.drewN nq).cell? ⟨wp.heap.size, 0, none⟩ = some (.string x.name) := y0
          have t1 : (wA.drewN nq).cell? ⟨wp.heap.size, 1, none⟩ = some (.string x.data) := y1
          have t2 : (wA.drewN nq).cell? ⟨wp.heap.size, 2, none⟩ = some (.bool true) := y2
          have t9 : wp.heap.size < (wA.drewN nq).heap.size := by show _ < wA.heap.size; omega
          clear y0 y1 y2 y9 yk
          generalize wA.drewN nq = W9 at hB9 t0 t1 t2 t9 ⊢
          have hx9 := hbx.below hbx.lt hB9
          have o9 := hown.below hB9
          have hz9 := hB9.size
          obtain ⟨_, v1, _, _, _⟩ := hx9.cells
          have nb : (Value.slice A3 m3 c3).ownBlock ≠ some b := fun e => by have := (hown.within e).1; omega
          have np : (Value.slice A3 m3 c3).ownBlock ≠ some wp.heap.size := fun e => by have := (hown.within e).2; omega
          have hlb9 := hx9.lt
          have hA : (W9.drew.alloc (.cells #[.string x.name, .string x.data, .bool true] 115)).cell? ⟨b, 1, none⟩ = some (.slice A3 m3 c3) ∧ (W9.drew.alloc (.cells #[.string x.name, .string x.data, .bool true] 115)).cell? ⟨wp.heap.size, 0, none⟩ = some (.string x.name) ∧ (W9.drew.alloc (.cells #[.string x.name, .string x.data, .bool true] 115)).cell? ⟨wp.heap.size, 1, none⟩ = some (.string x.data) ∧ (W9.drew.alloc (.cells #[.string x.name, .string x.data, .bool true] 115)).cell? ⟨wp.heap.size, 2, none⟩ = some (.bool true) :=
            ⟨(World.cell?_alloc_lt _ _ _ (by simp; omega)).trans v1, (World.cell?_alloc_lt _ _ _ (by simp; omega)).trans t0, (World.cell?_alloc_lt _ _ _ (by simp; omega)).trans t1, (World.cell?_alloc_lt _ _ _ (by simp; omega)).trans t2⟩
          have hS : ∀ (W W' : World), wp.heap.size < W.heap.size → W.grownBy W' (Value.slice A3 m3 c3).ownBlock → (W.cell? ⟨b, 1, none⟩ = some (.slice A3 m3 c3) ∧ W.cell? ⟨wp.heap.size, 0, none⟩ = some (.string x.name) ∧ W.cell? ⟨wp.heap.size, 1, none⟩ = some (.string x.data) ∧ W.cell? ⟨wp.heap.size, 2, none⟩ = some (.bool true)) → W'.cell? ⟨b, 1, none⟩ = some (.slice A3 m3 c3) ∧ W'.cell? ⟨wp.heap.size, 0, none⟩ = some (.string x.name) ∧ W'.cell? ⟨wp.heap.size, 1, none⟩ = some (.string x.data) ∧ W'.cell? ⟨wp.heap.size, 2, none⟩ = some (.bool true) := fun W W' hz hg ⟨s1, s2, s3, s4⟩ =>
            ⟨(World.cell?_of_block (a := ⟨b, 1, none⟩) (hg.block b (by omega) (fun e => nb e.symm))).trans s1, (World.cell?_of_block (a := ⟨wp.heap.size, 0, none⟩) (hg.block wp.heap.size hz (fun e => np e.symm))).trans s2, (World.cell?_of_block (a := ⟨wp.heap.size, 1, none⟩) (hg.block wp.heap.size hz (fun e => np e.symm))).trans s3, (World.cell?_of_block (a := ⟨wp.heap.size, 2, none⟩) (hg.block wp.heap.size hz (fun e => np e.symm))).trans s4⟩
          have hBA : Below W9.heap.size W9 (W9.drew.alloc (.cells #[.string x.name, .string x.data, .bool true] 115)) := (Below.refl _ W9).drew.alloc (Nat.le_refl _) _
          have ho3 := o9.below hBA
          have hx3 := hx9.below hx9.lt hBA
          refine region_held_tail 8 (fun W : World => W.cell? ⟨b, 1, none⟩ = some (.slice A3 m3 c3) ∧ W.cell? ⟨wp.heap.size, 0, none⟩ = some (.string x.name) ∧ W.cell? ⟨wp.heap.size, 1, none⟩ = some (.string x.data) ∧ W.cell? ⟨wp.heap.size, 2, none⟩ = some (.bool true)) (by kernel_rfl) (by kernel_rfl) ?_
          have hHeld : (fun W : World => W.cell? ⟨b, 1, none⟩ = some (.slice A3 m3 c3) ∧ W.cell? ⟨wp.heap.size, 0, none⟩ = some (.string x.name) ∧ W.cell? ⟨wp.heap.size, 1, none⟩ = some (.string x.data) ∧ W.cell? ⟨wp.heap.size, 2, none⟩ = some (.bool true)) W9.drew := ⟨v1, t0, t1, t2⟩
          (refine HT.takeL (i := 0) (v := ?_) rfl (by kernel_rfl) (fun _ _ _ h => h) (Or.inl ⟨by rfl, ?_⟩) (by assumption) ?_
           rotate_left
           · (intro w hSw; (try dsimp only at hSw); go_simp; (try with_reducible rfl))
           try simp only [Act.put, List.setIfInBounds_toArray, List.set_cons_zero, List.set_cons_succ])
          (refine HT.takeL (i := 1) (v := ?_) rfl (by kernel_rfl) (fun _ _ _ h => h) (Or.inl ⟨by rfl, ?_⟩) (by assumption) ?_
           rotate_left
           · (intro w hSw; (try dsimp only at hSw); go_simp; (try with_reducible rfl))
           try simp only [Act.put, List.setIfInBounds_toArray, List.set_cons_zero, List.set_cons_succ])
          (refine HT.takeL (i := 2) (v := ?_) rfl (by kernel_rfl) (fun _ _ _ h => h) (Or.inl ⟨by rfl, ?_⟩) (by assumption) ?_
           rotate_left
           · (intro w hSw; (try dsimp only at hSw); go_simp; (try with_reducible rfl))
           try simp only [Act.put, List.setIfInBounds_toArray, List.set_cons_zero, List.set_cons_succ])
          (refine HT.takeL (i := 3) (v := ?_) rfl (by kernel_rfl) (fun _ _ _ h => h) (Or.inl ⟨by rfl, ?_⟩) (by assumption) ?_
           rotate_left
           · (intro w hSw; (try dsimp only at hSw); go_simp; (try with_reducible rfl))
           try simp only [Act.put, List.setIfInBounds_toArray, List.set_cons_zero, List.set_cons_succ])
          (refine HT.takeL (i := 4) (v := ?_) rfl (by kernel_rfl) (fun _ _ _ h => h) (Or.inl ⟨by rfl, ?_⟩) (by assumption) ?_
           rotate_left
           · (intro w hSw; (try dsimp only at hSw); go_simp; (try with_reducible rfl))
           try simp only [Act.put, List.setIfInBounds_toArray, List.set_cons_zero, List.set_cons_succ])
          (refine HT.takeL (i := 5) (v := ?_) rfl (by kernel_rfl) (fun _ _ _ h => h) (Or.inl ⟨by rfl, ?_⟩) (by assumption) ?_
           rotate_left
           · (intro w hSw; (try dsimp only at hSw); go_simp; (try with_reducible rfl))
           try simp only [Act.put, List.setIfInBounds_toArray, List.set_cons_zero, List.set_cons_succ])
          (refine HT.onlyL (i := 6) rfl (by kernel_rfl) (fun K hK => ?_)
           go_simp
           refine hK.out _ _ ?_ (fun hHeld => ?_)
           · (exact hA)
           clear hK K
           try simp only [Act.put, List.setIfInBounds_toArray, List.set_cons_zero, List.set_cons_succ])
          (refine HT.onlyL (i := 7) rfl (by kernel_rfl) (fun K hK => ?_)
           ((apply Elem.step_one wrE (s := .tmp 63) (x := .tmp 65) (base := w.heap.size) (l := crashW (s.writes.take j) keep) (y := (⟨x.name, x.data, true⟩ : Wr)); (case' hgd => rfl); (case' ho => rfl); (case' hs => rfl); (case' hx => rfl); (case' hown => exact (ho3)); (case' hy => exact (fun j u hu => by rcases j with _ | _ | _ | j <;> simp [wrE, Wr.cells] at hu <;> subst hu <;> first | (go_simp; done) | exact newCell _ _ _ _ _)); (case' hl => exact hlw); (case' hbase => exact (by first | omega | (simp; try omega)))); intro v' w4 ho4 hg4 hat4)
           refine hK.out _ _ ?_ (fun hHeld => ?_)
           · (exact hS _ _ (by simp; omega) hg4 hA)
           clear hK K
           try simp only [Act.put, List.setIfInBounds_toArray, List.set_cons_zero, List.set_cons_succ])
          refine HT.tail (by kernel_rfl) ?_
          simp only [List.drop_succ_cons, List.drop_zero]
          obtain ⟨A9, m9, c9, rfl⟩ : ∃ A m c, v' = .slice A m c := by obtain ⟨A, c, e⟩ := Owns.form ho4; exact ⟨A, _, c, e⟩
          have hx4 := hx3.grown hg4 nb
          have f4 := hx4.frozen 1
          obtain ⟨_, g1, _, _, _⟩ := hx4.cells
          have hfb := Lib.hid (hx4.set1 (.slice A9 m9 c9))
          have hfo : Hid (wrE.Own (w4.setCell ⟨b, 1, none⟩ (.slice A9 m9 c9)) w.heap.size (.slice A9 m9 c9) (crashW (s.writes.take (j + 1)) keep)) := by
            unfold Hid
            rw [hst3.out]
            exact ho4.blockS fun i e => Go.Deep.blk_setCell_other _ _ _ _ (fun e' => by have := (ho4.within e).1; have e2 : i = b := e'; omega)
          have hfu : Hid (But [b] w (w4.setCell ⟨b, 1, none⟩ (.slice A9 m9 c9))) := by
            unfold Hid
            refine (((hbt.trans (But.of_below (F := []) hB9) (by simp)).trans (But.of_below (F := []) hBA) (by simp)).trans (But.of_grown (F := (Value.slice A3 m3 c3).ownBlock.toList) hg4 (fun g e => Option.mem_toList.2 e)) (fun i hi => .inr (hown.within (i := i) (by simpa using hi)).1)).trans (But.of_set (F := [b]) _ (by simp)) (by simp)
          replace hx4 := Lib.hid hx4
          clear hHeld hA ho3 hS hx3 hx9 o9
          go_wp2_with fail
          go_roundw
          case rel => exact ⟨j + 1, A9, m9, c9, by omega, by go_num, hfb.out, hfo.out, hfu.out⟩
          case measure => simp [intOf]; omega
      · have hce : Hid (crashW (s.writes.take j) keep = crashW s.writes keep) := crashW_end (.inr (by have := hnl.out; omega))
        have hjn2 : ¬ (j : Int) < (n : Int) := by omega
        replace hx := Lib.hid hx
        clear q0 q1 q2
        have hin : RefIn wp b G (.slice A3 m3 c3) ({ s with writes := crashW s.writes keep, seen := crashGo s.writes keep s.good } : Sto) := by
          obtain ⟨a1, a2, a3⟩ := hh.out.ap_at
          exact
            { box := hbx
              good := hh.out.good.blockS fun i e => hbt.block i (hh.out.good.within e).2 (by simp; intro e'; exact a1 (by rw [e, e']))
              own := by rw [hce.out] at hown; exact Owns.from hown (Nat.zero_le _)
              ap := ap_make a1 (fun e => by have := (hown.within e).1; omega) fun i e e' => by have := (hh.out.good.within e).2; have := (hown.within e').1; omega }
        have hkk : StoOk N ({ s with writes := crashW s.writes keep, seen := crashGo s.writes keep s.good } : Sto) :=
          { coh := (fullGo_crashW _ _ _).symm, ng := hsh.out.ng, nw := crashW_ok hsh.out.nw
            len := by have := hsh.out.len; have := crashW_len s.writes keep; dsimp only; omega
            cap := hsh.out.cap, rf := hsh.out.rf, rf9 := hsh.out.rf9, rm := hsh.out.rm, rm9 := hsh.out.rm9 }
        have hO := ref07_Objects b _ N _ hkk wp ⟨G, _, rfl, hin⟩
        have hlb9 := hbx.lt
        replace hin := Lib.hid hin
        replace hkk := Lib.hid hkk
        have hVw : Hid (∀ i, (Value.slice A3 m3 c3).ownBlock = some i → w.heap.size ≤ i) := fun i e => (hown.within e).1
        clear hown
        go_wp2_with fail
        refine hO.mono ?_
        rintro e w2 ⟨v2, rfl, o2', b2'⟩
        obtain ⟨A9, m9, c9, rfl⟩ : ∃ A m c, v2 = .slice A m c := by obtain ⟨A, c, e⟩ := Owns.form o2'; exact ⟨A, _, c, e⟩
        have hx2 := hbx.below hlb9 b2'
        have g0 := hx2.frozen 0
        have hx3 := hx2.set0 (.slice A9 m9 c9)
        have g1 := hx3.frozen 1
        obtain ⟨r0, r1, _, _, _⟩ := hx2.cells
        obtain ⟨r2, r3, _, _, _⟩ := hx3.cells
        have hto : Hid (RefTo b (b :: (G.ownBlock.toList ++ (Value.slice (some ⟨b1, o1, none⟩) m2 c2).ownBlock.toList)) (s.crash keep) w ((w2.setCell ⟨b, 0, none⟩ (.slice A9 m9 c9)).setCell ⟨b, 1, none⟩ (.slice none 0 0))) := by
          refine RefTo.over (hbt.more (by simp)) (F' := b :: (G.ownBlock.toList ++ (Value.slice A3 m3 c3).ownBlock.toList)) ((RefTo.goodTo (s' := ({ s with writes := crashW s.writes keep, good := crashGo s.writes keep s.good, seen := crashGo s.writes keep s.good } : Sto)) hin.out o2' b2' rfl rfl rfl rfl).trans fun F1 h1 => ?_) fun i hi => ?_
          · obtain ⟨G1, V1, rfl, h1⟩ := h1
            exact RefTo.writesTo h1 rfl rfl rfl rfl rfl
          · simp only [List.mem_cons, List.mem_append, Option.mem_toList] at hi ⊢
            rcases hi with rfl | hi | hi
            · exact .inl (.inl rfl)
            · exact .inl (.inr (.inl hi))
            · exact .inr (hVw.out i hi)
        clear o2' hO
        replace hx2 := Lib.hid hx2
        replace hx3 := Lib.hid hx3
        go_wp2_with fail
        go_end0
        exact ⟨rfl, hto.out⟩
    · obtain rfl : j = m2 := by omega
      have hce : Hid (crashW (s.writes.take j) keep = crashW s.writes keep) := crashW_end (.inl (by have := hml.out; omega))
      have hin : RefIn wp b G (.slice A3 m3 c3) ({ s with writes := crashW s.writes keep, seen := crashGo s.writes keep s.good } : Sto) := by
        obtain ⟨a1, a2, a3⟩ := hh.out.ap_at
        exact
          { box := hbx
            good := hh.out.good.blockS fun i e => hbt.block i (hh.out.good.within e).2 (by simp; intro e'; exact a1 (by rw [e, e']))
            own := by rw [hce.out] at hown; exact Owns.from hown (Nat.zero_le _)
            ap := ap_make a1 (fun e => by have := (hown.within e).1; omega) fun i e e' => by have := (hh.out.good.within e).2; have := (hown.within e').1; omega }
      have hkk : StoOk N ({ s with writes := crashW s.writes keep, seen := crashGo s.writes keep s.good } : Sto) :=
        { coh := (fullGo_crashW _ _ _).symm, ng := hsh.out.ng, nw := crashW_ok hsh.out.nw
          len := by have := hsh.out.len; have := crashW_len s.writes keep; dsimp only; omega
          cap := hsh.out.cap, rf := hsh.out.rf, rf9 := hsh.out.rf9, rm := hsh.out.rm, rm9 := hsh.out.rm9 }
      have hO := ref07_Objects b _ N _ hkk wp ⟨G, _, rfl, hin⟩
      have hlb9 := hbx.lt
      replace hin := Lib.hid hin
      replace hkk := Lib.hid hkk
      have hVw : Hid (∀ i, (Value.slice A3 m3 c3).ownBlock = some i → w.heap.size ≤ i) := fun i e => (hown.within e).1
      clear hown
      go_wp2_with fail
      refine hO.mono ?_
      rintro e w2 ⟨v2, rfl, o2', b2'⟩
      obtain ⟨A9, m9, c9, rfl⟩ : ∃ A m c, v2 = .slice A m c := by obtain ⟨A, c, e⟩ := Owns.form o2'; exact ⟨A, _, c, e⟩
      have hx2 := hbx.below hlb9 b2'
      have g0 := hx2.frozen 0
      have hx3 := hx2.set0 (.slice A9 m9 c9)
      have g1 := hx3.frozen 1
      obtain ⟨r0, r1, _, _, _⟩ := hx2.cells
      obtain ⟨r2, r3, _, _, _⟩ := hx3.cells
      have hto : Hid (RefTo b (b :: (G.ownBlock.toList ++ (Value.slice A2 j c2).ownBlock.toList)) (s.crash keep) w ((w2.setCell ⟨b, 0, none⟩ (.slice A9 m9 c9)).setCell ⟨b, 1, none⟩ (.slice none 0 0))) := by
        refine RefTo.over (hbt.more (by simp)) (F' := b :: (G.ownBlock.toList ++ (Value.slice A3 m3 c3).ownBlock.toList)) ((RefTo.goodTo (s' := ({ s with writes := crashW s.writes keep, good := crashGo s.writes keep s.good, seen := crashGo s.writes keep s.good } : Sto)) hin.out o2' b2' rfl rfl rfl rfl).trans fun F1 h1 => ?_) fun i hi => ?_
        · obtain ⟨G1, V1, rfl, h1⟩ := h1
          exact RefTo.writesTo h1 rfl rfl rfl rfl rfl
        · simp only [List.mem_cons, List.mem_append, Option.mem_toList] at hi ⊢
          rcases hi with rfl | hi | hi
          · exact .inl (.inl rfl)
          · exact .inl (.inr (.inl hi))
          · exact .inr (hVw.out i hi)
      clear o2' hO
      replace hx2 := Lib.hid hx2
      replace hx3 := Lib.hid hx3
      go_wp2_with fail
      go_end0
      exact ⟨rfl, hto.out⟩
end Go.Proofs.YtfkonpmnclknaaaGreat
