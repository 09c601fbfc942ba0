/-
  The reference's Put.
-/
import Derived.Test.YtfkonpmnclknaaaGreatRefP
import Derived.Deep.DeepCutAuto
namespace Go.Proofs.YtfkonpmnclknaaaGreat
open Go.RowKit
attribute [local go_sem ↓] Go.wp_at_zero Go.wp_at_succ

theorem usedR_snoc (p : Ob) : ∀ l : List Ob, usedO (l ++ [p]) = usedO l + if bareB p.1 = true then 0 else p.2.size
  | [] => by simp [usedO]
  | q :: l => by
    show (if bareB q.1 = true then 0 else q.2.size) + usedO (l ++ [p]) = (if bareB q.1 = true then 0 else q.2.size) + usedO l + _
    rw [usedR_snoc p l]
    omega

theorem usedR_take : ∀ (l : List Ob) (k : Nat), usedO (l.take k) ≤ usedO l
  | [], _ => by simp [usedO]
  | q :: l, 0 => by simp [usedO]
  | q :: l, k + 1 => by
    show (if bareB q.1 = true then 0 else q.2.size) + usedO (l.take k) ≤ (if bareB q.1 = true then 0 else q.2.size) + usedO l
    have := usedR_take l k
    omega

set_option maxHeartbeats 4000000 in
set_option maxRecDepth 100000 in
theorem ref07_Put (b : Nat) (F : List Nat) (N : Nat) (s : Sto) (hs : StoOk N s) (o : Ob) (w : World) (h : RefAt w b F s) :
    Calls Tryz.prog 66 #[.pointer (some ⟨b, 0, none⟩), .agg #[.string o.1, .string o.2]] w fun e w' => e = .returned (.int .i64 (s.put o).2) ∧ RefTo b F (s.put o).1 w w' := by
  obtain ⟨n, d⟩ := o
  dsimp only
  have hb0 : Below w.heap.size w (w.alloc (.cells #[.string n, .string d] 24)) := (Below.refl _ w).alloc (Nat.le_refl _) _
  have hsame : Hid (RefTo b F s w (w.alloc (.cells #[.string n, .string d] 24))) := RefTo.same h hb0
  by_cases k0 : n.size = 0
  · have hr : Hid (s.put (n, d) = (s, 1)) := by unfold Hid Sto.put badO; simp [k0]
    have e0 : ((n.size : Int) == 0) = true := by rw [k0]; rfl
    replace k0 := Lib.hid k0
    clear h hb0
    go_enter Tryz.func66, Tryz.ntmps66
    go_wp2_with fail
    go_ret
    exact ⟨by rw [hr.out]; rfl, by rw [hr.out]; exact hsame.out⟩
  have e0 : ((n.size : Int) == 0) = false := by simp; exact fun e => k0 (by rw [e]; rfl)
  by_cases k1 : 80 < n.size
  · have hr : Hid (s.put (n, d) = (s, 1)) := by unfold Hid Sto.put badO; simp [k1]
    have i1 : (80 : Int) < (n.size : Int) := by omega
    replace k0 := Lib.hid k0
    replace k1 := Lib.hid k1
    clear h hb0
    go_enter Tryz.func66, Tryz.ntmps66
    go_wp2_with fail
    go_ret
    exact ⟨by rw [hr.out]; rfl, by rw [hr.out]; exact hsame.out⟩
  have i1 : ¬ (80 : Int) < (n.size : Int) := by omega
  by_cases k2 : 65536 < d.size
  · have hr : Hid (s.put (n, d) = (s, 1)) := by unfold Hid Sto.put badO; simp [k2]
    have i2 : (65536 : Int) < (d.size : Int) := by omega
    replace k0 := Lib.hid k0
    replace k1 := Lib.hid k1
    replace k2 := Lib.hid k2
    clear h hb0
    go_enter Tryz.func66, Tryz.ntmps66
    go_wp2_with fail
    go_ret
    exact ⟨by rw [hr.out]; rfl, by rw [hr.out]; exact hsame.out⟩
  have i2 : ¬ (65536 : Int) < (d.size : Int) := by omega
  have hbad : badO (n, d) = false := by simp [badO, k0, k1, k2]
  replace k0 := Lib.hid k0
  replace k1 := Lib.hid k1
  replace k2 := Lib.hid k2
  have hall := h
  obtain ⟨G, V, rfl, h⟩ := h
  cases hdn : s.down
  case true =>
    have hr : Hid (s.put (n, d) = (s, 51)) := by unfold Hid Sto.put; rw [hbad, hdn]; rfl
    obtain ⟨c0, c1, c2, c3, c4⟩ := h.box.cells
    have hlt := h.box.lt
    rw [hdn] at c2
    clear hb0 h hall
    replace hdn := Lib.hid hdn
    replace hbad := Lib.hid hbad
    go_enter Tryz.func66, Tryz.ntmps66
    go_wp2_with fail
    go_ret
    exact ⟨by rw [hr.out]; rfl, by rw [hr.out]; exact hsame.out⟩
  have hlt := h.box.lt
  have x0 : (w.alloc (.cells #[.string n, .string d] 24)).cell? ⟨w.heap.size, 0, none⟩ = some (.string n) := newCell _ _ _ _ _
  have x1 : (w.alloc (.cells #[.string n, .string d] 24)).cell? ⟨w.heap.size, 1, none⟩ = some (.string d) := newCell _ _ _ _ _
  have hz0 : (w.alloc (.cells #[.string n, .string d] 24)).heap.size = w.heap.size + 1 := by simp
  have h0 := h.block fun i hi => hb0.block i (h.lt i hi)
  have hF := Lib.hid (fun W (hW : RefIn W b G V s) => ref07_refused b G V s W hW hs.rf hs.rf9)
  have hO := Lib.hid (fun W (hW : Below w.heap.size w W) => ref07_Objects b _ N s hs W (hall.below hW))
  have hsl : s.seen.length ≤ 1000000 := Nat.le_trans hs.seenLen hs.cap
  have hlw : s.writes.length ≤ 1000000000 := by have := hs.len; have := hs.cap; omega
  have huc : usedO (putO s.seen (n, d)) ≤ 70000000000 := by
    have hk := usedO_le (l := putO s.seen (n, d)) (M := 65536) fun p hp => by
      rcases putO_mem.1 hp with rfl | hp
      · have := k2.out; dsimp only; omega
      · exact (hs.ns p hp.1).2
    have := putO_len s.seen (n, d)
    have : (putO s.seen (n, d)).length * 65536 ≤ 1000001 * 65536 := Nat.mul_le_mul_right _ (by omega)
    omega
  have hpl := putO_len s.seen (n, d)
  replace hbad := Lib.hid hbad
  obtain ⟨c0, c1, c2, c3, c4⟩ := h0.box.cells
  rw [hdn] at c2
  replace hdn := Lib.hid hdn
  have hst := Lib.hid hall
  clear hs hall
  go_enter Tryz.func66, Tryz.ntmps66
  go_upto_region 5 with fail
  generalize (w.alloc (.cells #[.string n, .string d] 24)) = w0 at hb0 hsame h0 x0 x1 hz0 c0 c1 c2 c3 c4 ⊢
  go_cut [42] (fun v wc => v = .bool (decide (0 ≤ s.room) && !bareB n) ∧ wc = w0)
  case first =>
    by_cases hr0 : 0 ≤ s.room
    case neg =>
      have hfl : Hid ((decide (0 ≤ s.room) && !bareB n) = false) := by unfold Hid; simp [hr0]
      go_wp2_with fail
      go_meet
      exact ⟨by rw [hfl.out], rfl⟩
    by_cases hn0 : n = ⟨#[109, 48]⟩
    · have p0 : (n.toList == [109, 48]) = true := by simpa using str_eq hn0
      have hfl : Hid ((decide (0 ≤ s.room) && !bareB n) = false) := by unfold Hid; simp [bareB, hn0]
      replace hn0 := Lib.hid hn0
      go_wp2_with fail
      go_meet
      exact ⟨by rw [hfl.out], rfl⟩
    have p0 : (n.toList == [109, 48]) = false := by simpa using str_ne hn0
    by_cases hn1 : n = ⟨#[109, 49]⟩
    · have p1 : (n.toList == [109, 49]) = true := by simpa using str_eq hn1
      have hfl : Hid ((decide (0 ≤ s.room) && !bareB n) = false) := by unfold Hid; simp [bareB, hn1]
      replace hn0 := Lib.hid hn0
      replace hn1 := Lib.hid hn1
      go_wp2_with fail
      go_meet
      exact ⟨by rw [hfl.out], rfl⟩
    have p1 : (n.toList == [109, 49]) = false := by simpa using str_ne hn1
    have hfl : Hid ((decide (0 ≤ s.room) && !bareB n) = true) := by unfold Hid; simp [bareB, hn0, hn1, hr0]
    replace hn0 := Lib.hid hn0
    replace hn1 := Lib.hid hn1
    go_wp2_with fail
    go_meet
    exact ⟨by rw [hfl.out], rfl⟩
  case rest =>
  obtain ⟨rfl, hwc⟩ := hcut
  rw [hwc]
  clear hwc
  go_upto_if 42 with fail
  trace "REST"
  go_cut [5, 6, 7] (fun v5 v6 v7 wc => (∃ x, v5 = x) ∧ (∃ x, v6 = x) ∧ (∃ x, v7 = x) ∧ s.full (n, d) = false ∧ Below w0.heap.size w0 wc)
  case first =>
    have hss := Lib.hid fun W (hW : Below w.heap.size w W) => RefTo.same hst.out hW
    cases hc : (decide (0 ≤ s.room) && !bareB n)
    · have hfl : s.full (n, d) = false := by unfold Sto.full; rw [hc]; rfl
      replace hc := Lib.hid hc
      replace hfl := Lib.hid hfl
      go_wp2_with fail
      go_meet
      exact ⟨⟨_, rfl⟩, ⟨_, rfl⟩, ⟨_, rfl⟩, hfl.out, Below.refl _ _⟩
    have hfl : Hid (s.full (n, d) = decide (s.room < (usedO (putO s.seen (n, d)) : Nat))) := by unfold Hid Sto.full; rw [hc]; rfl
    replace hc := Lib.hid hc
    go_upto_region 7 with fail
    have hzw : w.heap.size < w0.heap.size := by omega
    refine region_krip (fun W : World => Below w0.heap.size w0 W) (by kernel_rfl) ((Below.refl _ _).drew) ?_
    (refine kF.takeL (i := 0) (v := ?_) rfl (by kernel_rfl) (fun _ _ _ h => h) (Or.inl ⟨by rfl, ?_⟩) ?_
     rotate_left
     · (intro wS hSw; (try dsimp only at hSw); have hcS := fun b o (h : b < w0.heap.size) => hSw.cell (p := ⟨b, o, none⟩) h; go_simp; (try with_reducible rfl))
     try simp only [Act.put, List.setIfInBounds_toArray, List.set_cons_zero, List.set_cons_succ])
    (refine kF.takeL (i := 2) (v := ?_) rfl (by kernel_rfl) (fun _ _ _ h => h) (Or.inl ⟨by rfl, ?_⟩) ?_
     rotate_left
     · (intro wS hSw; (try dsimp only at hSw); have hcS := fun b o (h : b < w0.heap.size) => hSw.cell (p := ⟨b, o, none⟩) h; go_simp; (try with_reducible rfl))
     try simp only [Act.put, List.setIfInBounds_toArray, List.set_cons_zero, List.set_cons_succ])
    (refine kF.lastL (j := 1) rfl (by kernel_rfl) (fun _ _ _ _ _ h => h) (fun _ _ h1 h2 => below_S (Nat.le_refl _) h1 h2) (fun hSk K hK => ?_)
     (go_simp; refine (hO.out _ ((hb0.trans (hSk.mono (by omega))))).mono ?_; rintro e k1 ⟨v1, rfl, o1, b1⟩)
     refine hK.out _ _ (below_S (Nat.le_refl _) hSk b1) ?_
     clear hK K
     try simp only [Act.put, List.setIfInBounds_toArray, List.set_cons_zero, List.set_cons_succ])
    obtain ⟨A1, m1, c1', rfl⟩ : ∃ A m c, v1 = .slice A m c := by obtain ⟨A, c, e⟩ := Owns.form o1; exact ⟨A, _, c, e⟩
    have r1 := Owns.row (k := 2) (fun x => objE.len x) o1
    have hm1 : m1 ≤ 1000000 := by have := r1.1; omega
    (refine kF.lastL (j := 3) rfl (by kernel_rfl) (fun _ _ _ _ _ h => h) (fun _ _ h1 h2 => below_S (Nat.le_refl _) h1 h2) (fun hSk K hK => ?_)
     (go_simp; refine (ref07_put A1 m1 c1' s.seen (n, d) _ r1 hm1).mono ?_; rintro e k3 ⟨v3, rfl, o3, b3⟩)
     refine hK.out _ _ (below_S (Nat.le_refl _) hSk b3) ?_
     clear hK K
     try simp only [Act.put, List.setIfInBounds_toArray, List.set_cons_zero, List.set_cons_succ])
    have hb3 := hSk.trans (b3.mono hSk.size)
    obtain ⟨A3, m3, c3', rfl⟩ : ∃ A m c, v3 = .slice A m c := by obtain ⟨A, c, e⟩ := Owns.form o3; exact ⟨A, _, c, e⟩
    have r3 := Owns.row (k := 2) (fun x => objE.len x) o3
    have hm3 : m3 ≤ 1000001 := by have := r3.1; omega
    have hl3 := Lib.hid r3.1
    clear r1 o1 o3 b3 b1 hm1
    (refine kF.takeL (i := 4) (v := ?_) rfl (by kernel_rfl) (fun _ _ _ h => h) (Or.inl ⟨by rfl, ?_⟩) ?_
     rotate_left
     · (intro wS hSw; (try dsimp only at hSw); have hcS := fun b o (h : b < w0.heap.size) => hSw.cell (p := ⟨b, o, none⟩) h; go_simp; (try with_reducible rfl))
     try simp only [Act.put, List.setIfInBounds_toArray, List.set_cons_zero, List.set_cons_succ])
    refine kF.done (by kernel_rfl) ?_
    have c3z : Below w.heap.size w k3 := hb0.trans (hb3.mono (by omega))
    have hbx : ∀ W, Below k3.heap.size k3 W → W.cell? ⟨b, 4, none⟩ = some (.int .i64 s.room) := fun W hW => by
      have h9 := (h0.box.below (by omega) hb3).below (by have := hb3.size; omega) hW
      exact h9.cells.2.2.2.2
    have q4 := hbx k3 (Below.refl _ _)
    replace hbx := Lib.hid hbx
    go_upto_region 8 with fail
    go_wp2_with fail
    go_loopw [5, 7] (fun tn ti wr => ∃ j : Nat, j ≤ m3 ∧ ti = .int .i64 j ∧ tn = .int .i64 (usedO ((putO s.seen (n, d)).take j) : Nat) ∧ Below k3.heap.size k3 wr) (fun _ ti _ => m3 - (intOf ti).toNat)
    case atStart => exact ⟨0, Nat.zero_le _, rfl, rfl, Below.refl _ _⟩
    case round =>
      obtain ⟨j, hj, rfl, rfl, hbr⟩ := hrel
      obtain ⟨wp, rfl⟩ : ∃ x : World, x = wr := ⟨_, rfl⟩
      by_cases hlt : j < m3
      · obtain ⟨b9, o9, p, rfl, hb9, hp, r0, r1⟩ := (r3.to hbr).ob hlt
        have hts : usedO ((putO s.seen (n, d)).take (j + 1)) = usedO ((putO s.seen (n, d)).take j) + if bareB p.1 = true then 0 else p.2.size := by rw [List.take_add_one, hp]; exact usedR_snoc p _
        have hut : usedO ((putO s.seen (n, d)).take (j + 1)) ≤ 70000000000 := Nat.le_trans (usedR_take _ _) huc
        replace hp := Lib.hid hp
        obtain ⟨uu, huu⟩ : ∃ uu, uu = usedO ((putO s.seen (n, d)).take j) := ⟨_, rfl⟩
        rw [← huu] at hts ⊢
        replace huu := Lib.hid huu
        by_cases hp0 : p.1 = ⟨#[109, 48]⟩
        · have pp0 : (p.1.toList == [109, 48]) = true := by simpa using str_eq hp0
          have hbp : bareB p.1 = true := by simp [bareB, hp0]
          rw [hbp] at hts
          replace hts := Lib.hid hts
          replace hp0 := Lib.hid hp0
          replace hbp := Lib.hid hbp
          go_wp2_with fail
          go_roundw
          case rel => exact ⟨j + 1, by omega, by go_num, by rw [hts.out]; simp, hbr⟩
          case measure => simp [intOf]; omega
        have pp0 : (p.1.toList == [109, 48]) = false := by simpa using str_ne hp0
        by_cases hp1 : p.1 = ⟨#[109, 49]⟩
        · have pp1 : (p.1.toList == [109, 49]) = true := by simpa using str_eq hp1
          have hbp : bareB p.1 = true := by simp [bareB, hp1]
          rw [hbp] at hts
          replace hts := Lib.hid hts
          replace hp0 := Lib.hid hp0
          replace hp1 := Lib.hid hp1
          replace hbp := Lib.hid hbp
          go_wp2_with fail
          go_roundw
          case rel => exact ⟨j + 1, by omega, by go_num, by rw [hts.out]; simp, hbr⟩
          case measure => simp [intOf]; omega
        have pp1 : (p.1.toList == [109, 49]) = false := by simpa using str_ne hp1
        have hbp : bareB p.1 = false := by simp [bareB, hp0, hp1]
        rw [hbp] at hts
        have hps : uu + p.2.size ≤ 70000000000 := by simp at hts; omega
        replace hts := Lib.hid hts
        replace hp0 := Lib.hid hp0
        replace hp1 := Lib.hid hp1
        replace hbp := Lib.hid hbp
        replace hut := Lib.hid hut
        go_wp2_with fail
        go_roundw
        case rel => exact ⟨j + 1, by omega, by go_num, by rw [hts.out]; simp, hbr⟩
        case measure => simp [intOf]; omega
      · obtain rfl : j = m3 := by omega
        have hta : (putO s.seen (n, d)).take j = putO s.seen (n, d) := List.take_of_length_le (by have := hl3.out; omega)
        rw [hta]
        replace hta := Lib.hid hta
        have q5 := hbx.out wp hbr
        have hbw3 := hb3.trans (hbr.mono hb3.size)
        have hbz3 := c3z.trans (hbr.mono c3z.size)
        clear q4
        obtain ⟨uu, huu⟩ : ∃ uu, uu = usedO (putO s.seen (n, d)) := ⟨_, rfl⟩
        rw [← huu] at hfl huc ⊢
        replace huu := Lib.hid huu
        by_cases hq : s.room < (uu : Int)
        · have hr : Hid (s.put (n, d) = (s, 52)) := by unfold Hid Sto.put; rw [hbad.out, hdn.out, hfl.out, decide_eq_true hq]; rfl
          go_wp2_with fail
          go_ret
          exact ⟨by rw [hr.out]; rfl, by rw [hr.out]; exact hss.out _ hbz3⟩
        · have hf2 : Hid (s.full (n, d) = false) := by unfold Hid; rw [hfl.out, decide_eq_false hq]
          go_wp2_with fail
          go_meet
          exact ⟨⟨_, rfl⟩, ⟨_, rfl⟩, ⟨_, rfl⟩, hf2.out, hbw3⟩
  case rest =>
    obtain ⟨wq, rfl⟩ : ∃ x : World, x = wc := ⟨_, rfl⟩
    obtain ⟨⟨_, rfl⟩, ⟨_, rfl⟩, ⟨_, rfl⟩, hfl, hbq⟩ := hcut
    have h1 := h0.block fun i hi => hbq.block i (h0.lt i hi)
    have y0 := (hbq.cell (p := ⟨w.heap.size, 0, none⟩) (by simp; omega)).trans x0
    have y1 := (hbq.cell (p := ⟨w.heap.size, 1, none⟩) (by simp; omega)).trans x1
    have hbw : Below w.heap.size w wq := hb0.trans (hbq.mono (by omega))
    have hzq := hbq.size
    have hlt2 := h.lt
    clear c0 c1 c2 c3 c4 x0 x1
    go_wp2_with fail
    refine (hF.out wq h1).mono ?_
    rintro e w2 ⟨rfl, h2, hbt⟩
    have hz2 := hbt.size
    have z0 := (World.cell?_of_block (a := ⟨w.heap.size, 0, none⟩) (hbt.block w.heap.size (by omega) (by simp; omega))).trans y0
    have z1 := (World.cell?_of_block (a := ⟨w.heap.size, 1, none⟩) (hbt.block w.heap.size (by omega) (by simp; omega))).trans y1
    have hbb : But (b :: (G.ownBlock.toList ++ V.ownBlock.toList)) w w2 := (But.of_below hbw).trans hbt (by simp)
    clear y0 y1
    cases hrn : s.refNow
    · have hr : Hid (s.put (n, d) = ({ s.tried with seen := putO s.seen (n, d), writes := s.writes ++ [⟨n, d, false⟩] }, 0)) := by unfold Hid Sto.put; rw [hbad.out, hdn.out, hfl, hrn]; rfl
      go_upto_region 17 with fail
      have h2w : s.tried.writes = s.writes := tried_writes s
      obtain ⟨_, v1, _, _, _⟩ := h2.box.cells
      have nb := h2.ap_at.2.1
      have hl2 := h2.box.lt
      have no : V.ownBlock ≠ some w.heap.size := fun e => by have := (h.own.within e).2; omega
      have hA : (w2.drew.alloc (.cells #[.string n, .string d, .bool false] 115)).cell? ⟨b, 1, none⟩ = some V ∧ (w2.drew.alloc (.cells #[.string n, .string d, .bool false] 115)).cell? ⟨w.heap.size, 0, none⟩ = some (.string n) ∧ (w2.drew.alloc (.cells #[.string n, .string d, .bool false] 115)).cell? ⟨w.heap.size, 1, none⟩ = some (.string d) :=
        ⟨(World.cell?_alloc_lt _ _ _ (by simp; omega)).trans v1, (World.cell?_alloc_lt _ _ _ (by simp; omega)).trans z0, (World.cell?_alloc_lt _ _ _ (by simp; omega)).trans z1⟩
      have hS : ∀ (W W' : World), w.heap.size < W.heap.size → W.grownBy W' V.ownBlock → (W.cell? ⟨b, 1, none⟩ = some V ∧ W.cell? ⟨w.heap.size, 0, none⟩ = some (.string n) ∧ W.cell? ⟨w.heap.size, 1, none⟩ = some (.string d)) → W'.cell? ⟨b, 1, none⟩ = some V ∧ W'.cell? ⟨w.heap.size, 0, none⟩ = some (.string n) ∧ W'.cell? ⟨w.heap.size, 1, none⟩ = some (.string d) := fun W W' hz hg ⟨s1, s2, s3⟩ =>
        ⟨(World.cell?_of_block (a := ⟨b, 1, none⟩) (hg.block b (by omega) (fun e => nb e.symm))).trans s1, (World.cell?_of_block (a := ⟨w.heap.size, 0, none⟩) (hg.block w.heap.size hz (fun e => no e.symm))).trans s2, (World.cell?_of_block (a := ⟨w.heap.size, 1, none⟩) (hg.block w.heap.size hz (fun e => no e.symm))).trans s3⟩
      have h3a := (h2.block (w' := w2.drew) fun _ _ => rfl).block (w' := w2.drew.alloc (.cells #[.string n, .string d, .bool false] 115)) fun i hi => Go.Deep.blk_alloc_lt _ _ _ (h2.lt i hi)
      have ho3 := h3a.own
      simp only [h2w] at ho3
      refine region_held_tail 9 (fun W : World => W.cell? ⟨b, 1, none⟩ = some V ∧ W.cell? ⟨w.heap.size, 0, none⟩ = some (.string n) ∧ W.cell? ⟨w.heap.size, 1, none⟩ = some (.string d)) (by kernel_rfl) (by kernel_rfl) ?_
      have hHeld : (fun W : World => W.cell? ⟨b, 1, none⟩ = some V ∧ W.cell? ⟨w.heap.size, 0, none⟩ = some (.string n) ∧ W.cell? ⟨w.heap.size, 1, none⟩ = some (.string d)) w2.drew := ⟨v1, z0, z1⟩
      (refine HT.takeL (i := 0) (v := ?_) rfl (by kernel_rfl) (fun _ _ _ h => h) (Or.inl ⟨by rfl, ?_⟩) (by assumption) ?_
       rotate_left
       · (intro w hSw; (try dsimp only at hSw); go_simp; (try with_reducible rfl))
       try simp only [Act.put, List.setIfInBounds_toArray, List.set_cons_zero, List.set_cons_succ])
      (refine HT.takeL (i := 1) (v := ?_) rfl (by kernel_rfl) (fun _ _ _ h => h) (Or.inl ⟨by rfl, ?_⟩) (by assumption) ?_
       rotate_left
       · (intro w hSw; (try dsimp only at hSw); go_simp; (try with_reducible rfl))
       try simp only [Act.put, List.setIfInBounds_toArray, List.set_cons_zero, List.set_cons_succ])
      (refine HT.takeL (i := 2) (v := ?_) rfl (by kernel_rfl) (fun _ _ _ h => h) (Or.inl ⟨by rfl, ?_⟩) (by assumption) ?_
       rotate_left
       · (intro w hSw; (try dsimp only at hSw); go_simp; (try with_reducible rfl))
       try simp only [Act.put, List.setIfInBounds_toArray, List.set_cons_zero, List.set_cons_succ])
      (refine HT.takeL (i := 3) (v := ?_) rfl (by kernel_rfl) (fun _ _ _ h => h) (Or.inl ⟨by rfl, ?_⟩) (by assumption) ?_
       rotate_left
       · (intro w hSw; (try dsimp only at hSw); go_simp; (try with_reducible rfl))
       try simp only [Act.put, List.setIfInBounds_toArray, List.set_cons_zero, List.set_cons_succ])
      (refine HT.takeL (i := 4) (v := ?_) rfl (by kernel_rfl) (fun _ _ _ h => h) (Or.inl ⟨by rfl, ?_⟩) (by assumption) ?_
       rotate_left
       · (intro w hSw; (try dsimp only at hSw); go_simp; (try with_reducible rfl))
       try simp only [Act.put, List.setIfInBounds_toArray, List.set_cons_zero, List.set_cons_succ])
      (refine HT.takeL (i := 5) (v := ?_) rfl (by kernel_rfl) (fun _ _ _ h => h) (Or.inl ⟨by rfl, ?_⟩) (by assumption) ?_
       rotate_left
       · (intro w hSw; (try dsimp only at hSw); go_simp; (try with_reducible rfl))
       try simp only [Act.put, List.setIfInBounds_toArray, List.set_cons_zero, List.set_cons_succ])
      (refine HT.takeL (i := 6) (v := ?_) rfl (by kernel_rfl) (fun _ _ _ h => h) (Or.inl ⟨by rfl, ?_⟩) (by assumption) ?_
       rotate_left
       · (intro w hSw; (try dsimp only at hSw); go_simp; (try with_reducible rfl))
       try simp only [Act.put, List.setIfInBounds_toArray, List.set_cons_zero, List.set_cons_succ])
      (refine HT.onlyL (i := 7) rfl (by kernel_rfl) (fun K hK => ?_)
       go_simp
       refine hK.out _ _ ?_ (fun hHeld => ?_)
       · (exact hA)
       clear hK K
       try simp only [Act.put, List.setIfInBounds_toArray, List.set_cons_zero, List.set_cons_succ])
      (refine HT.onlyL (i := 8) rfl (by kernel_rfl) (fun K hK => ?_)
       ((apply Elem.step_one wrE (s := .tmp 87) (x := .tmp 90) (base := 0) (l := s.writes) (y := (⟨n, d, false⟩ : Wr)); (case' hgd => rfl); (case' ho => rfl); (case' hs => rfl); (case' hx => rfl); (case' hown => exact (ho3)); (case' hy => exact (fun j u hu => by rcases j with _ | _ | _ | j <;> simp [wrE, Wr.cells] at hu <;> subst hu <;> first | (go_simp; done) | exact newCell _ _ _ _ _)); (case' hl => exact hlw); (case' hbase => exact (by first | omega | (simp; try omega)))); intro v' w4 ho4 hg4 hat4)
       refine hK.out _ _ ?_ (fun hHeld => ?_)
       · (exact hS _ _ (by simp; omega) hg4 hA)
       clear hK K
       try simp only [Act.put, List.setIfInBounds_toArray, List.set_cons_zero, List.set_cons_succ])
      refine HT.tail (by kernel_rfl) ?_
      simp only [List.drop_succ_cons, List.drop_zero]
      obtain ⟨A9, m9, c9, rfl⟩ : ∃ A m c, v' = .slice A m c := by obtain ⟨A, c, e⟩ := Owns.form ho4; exact ⟨A, _, c, e⟩
      have hx4 := h3a.box.grown hg4 nb
      have f4 := hx4.frozen 1
      obtain ⟨_, g1, _, _, _⟩ := hx4.cells
      have hfin := RefTo.wrote (s' := { s.tried with seen := putO s.seen (n, d), writes := s.writes ++ [⟨n, d, false⟩] }) (x := ⟨n, d, false⟩) h3a (by rw [h2w]; exact ho4) hg4 hat4 rfl (by rw [h2w]) rfl rfl rfl
      have hfin2 := RefTo.after (hbb.trans (But.of_below (F := []) ((Below.refl _ w2).drew.alloc (Nat.le_refl _) _)) (by simp)) hfin
      replace hfin2 := Lib.hid hfin2
      clear hHeld hA h3a ho3 hS hfin
      go_wp2_with fail
      go_ret
      exact ⟨by rw [hr.out]; rfl, by rw [hr.out]; exact hfin2.out⟩
    · have hr : Hid (s.put (n, d) = (s.tried, 53)) := by unfold Hid Sto.put; rw [hbad.out, hdn.out, hfl, hrn]; rfl
      go_wp2_with fail
      go_ret
      exact ⟨by rw [hr.out]; rfl, by rw [hr.out]; exact ⟨_, ⟨G, V, rfl, h2⟩, hbb, fun i hi => .inl hi⟩⟩
end Go.Proofs.YtfkonpmnclknaaaGreat
