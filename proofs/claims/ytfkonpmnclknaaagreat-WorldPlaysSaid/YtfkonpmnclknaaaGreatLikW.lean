/-
  like of chapter 8: a world is the document's. What is told of it is written over.
-/
import Derived.Test.YtfkonpmnclknaaaGreatWldP
namespace Go.Proofs.YtfkonpmnclknaaaGreat
open Go.RowKit
attribute [local go_sem ↓] Go.wp_at_zero Go.wp_at_succ

/-- The reference's world: its cells, and its stores. -/
theorem RWAt.see {w : World} {c : Nat} {Y : List Nat} {x : Wld} (h : RWAt w c Y x) (hn : 0 < x.stores.length) : ∃ g k, c < w.heap.size ∧ g < w.heap.size ∧ w.cell? ⟨c, 0, none⟩ = some (.slice (some ⟨g, 0, none⟩) x.stores.length k) ∧ w.cell? ⟨c, 2, none⟩ = some (.int .i64 x.calls) ∧ w.cell? ⟨c, 4, none⟩ = some (.bool x.dark) ∧
    ∀ i : Nat, i < x.stores.length → ∃ q s u F, x.stores[i]? = some (s, u) ∧ w.cell? ⟨g, i, none⟩ = some (.pointer (some ⟨q, 0, none⟩)) ∧ RefAt w q F s := by
  obtain ⟨V, U, l, f, rfl, h⟩ := h
  obtain ⟨g, k, rfl⟩ := h.rowForm hn
  obtain ⟨z0, z1, z2, z3, z4⟩ := h.box.cells
  have hrow := Owns.row (k := 1) (fun x => ptE.len x) h.own
  refine ⟨g, k, h.box.lt, ?_, z0, z2, z4, fun i hi => ?_⟩
  · obtain ⟨b0, off, pr, e0, hb0, hpr, o0⟩ := hrow.pt (i := 0) hn
    cases e0
    exact hb0
  · obtain ⟨s, u, q, hx, hq, hs⟩ := h.at_ hi
    obtain ⟨b0, off, pr, e0, hb0, hpr, o0⟩ := hrow.pt (i := i) hi
    cases e0
    rw [hq] at hpr
    cases hpr
    refine ⟨q, s, u, _, hx, ?_, hs⟩
    rw [← o0, Nat.zero_add]

theorem up_of {m : Wld} {i : Nat} {s : Sto} {u : Bool} (h : m.stores[i]? = some (s, u)) : m.up i = (!s.down) ∧ m.objs i = s.seen := by
  have hi := (List.getElem?_eq_some_iff.1 h).1
  have hh : m.has (i : Int) = true := by unfold Wld.has; simp; omega
  unfold Wld.up Wld.objs
  simp [hh, h]
theorem out_of {m : Wld} {i : Int} (h : i < 0 ∨ (m.stores.length : Int) ≤ i) : m.up i = false ∧ m.objs i = [] := by
  have hh : m.has i = false := by unfold Wld.has; simp; omega
  unfold Wld.up Wld.objs
  simp [hh]

theorem Writ.more_ {k : Nat} {w : World} {base base' n : Nat} {A : Option Addr} (h : Writ k w base A n) (hb : base' ≤ base) : Writ k w base' A n := fun hn => by
  obtain ⟨b, off, e, h1, h2⟩ := h hn
  exact ⟨b, off, e, Nat.le_trans hb h1, h2⟩

/-- Two rows of numbers, the first one's written over up to j. -/
def Sp (w wr : World) (A A' : Option Addr) (n j : Nat) (l : List Int) : Prop := Below w.heap.size w wr ∧ l.length = n ∧ ∀ i x, l[i]? = some x →
  ∃ a oa b ob, A = some ⟨a, oa, none⟩ ∧ A' = some ⟨b, ob, none⟩ ∧ w.heap.size ≤ a ∧ a ≠ b ∧ (j ≤ i → wr.cell? ⟨a, oa + i, none⟩ = some (.int .i64 x)) ∧ wr.frozen? ⟨a, oa + i, none⟩ = false ∧ wr.cell? ⟨b, ob + i, none⟩ = some (.int .i64 x)
theorem Sp.at_ {w wr : World} {A A' : Option Addr} {n j : Nat} {l : List Int} (h : Sp w wr A A' n j l) (hj : j < n) : ∃ a oa b ob x, A = some ⟨a, oa, none⟩ ∧ A' = some ⟨b, ob, none⟩ ∧ wr.cell? ⟨a, oa + j, none⟩ = some (.int .i64 x) ∧ wr.frozen? ⟨a, oa + j, none⟩ = false ∧ wr.cell? ⟨b, ob + j, none⟩ = some (.int .i64 x)
    ∧ ∀ q, Sp w ((wr.drewN q).setCell ⟨a, oa + j, none⟩ (.int .i64 (-7))) A A' n (j + 1) l := by
  obtain ⟨h0, hl, h1⟩ := h
  obtain ⟨a, oa, b, ob, e1, e2, h2, h3, h4, h5, h6⟩ := h1 j _ (List.getElem?_eq_getElem (by omega))
  refine ⟨a, oa, b, ob, _, e1, e2, h4 (Nat.le_refl _), h5, h6, fun q => ⟨(below_drewN h0 q).setCell (p := ⟨a, oa + j, none⟩) h2 _, hl, fun i x hx => ?_⟩⟩
  obtain ⟨a', oa', b', ob', e1', e2', k2, k3, k4, k5, k6⟩ := h1 i x hx
  rw [e1] at e1'
  rw [e2] at e2'
  cases e1'
  cases e2'
  refine ⟨a, oa, b, ob, e1, e2, h2, h3, fun hi => ?_, ?_, ?_⟩
  · rw [World.cell?_setCell_other _ _ _ _ (by first | (simp; done) | (simp; omega))]
    exact k4 (by omega)
  · rw [World.frozen?_setCell]
    exact k5
  · rw [World.cell?_setCell_other _ _ _ _ (by first | (simp; done) | (simp; intro e; exact absurd e.symm h3))]
    exact k6
theorem Sp.start {w w1 w2 : World} {n n' c c' : Nat} {A A' : Option Addr} {l : List Int} (h1 : intE.Own w1 w.heap.size (.slice A n c) l) (hb1 : Below w.heap.size w w1) (h2 : intE.Own w2 w1.heap.size (.slice A' n' c') l) (hb2 : Below w1.heap.size w1 w2) : n' = n ∧ n ≤ 9223372036854775807 ∧ Sp w w2 A A' n 0 l := by
  have r1 := Owns.row (k := 1) (fun x => intE.len x) h1
  have r2 := Owns.row (k := 1) (fun x => intE.len x) h2
  obtain rfl : n' = n := by rw [← r1.1, ← r2.1]
  refine ⟨rfl, r1.2.1, hb1.trans (hb2.mono hb1.size), r1.1, fun i x hx => ?_⟩
  have hi : i < n' := by rw [← r1.1]; exact (List.getElem?_eq_some_iff.1 hx).1
  obtain ⟨a, oa, k, rfl, ha, hk, q1⟩ := RowAt.int r1 hi
  obtain ⟨b, ob, k', rfl, hb, hk', q2⟩ := RowAt.int r2 hi
  rw [hx] at hk hk'
  cases hk
  cases hk'
  have f1 := Owns.writ (k := 1) h1
  have f2 := Owns.writ (k := 1) h2
  obtain ⟨a2, oa2, u, e1, hbase, _, hfz⟩ := f1.at_ hi (by decide)
  cases e1
  obtain ⟨b2, ob2, u2, e2, hbase2, _, _⟩ := f2.at_ hi (by decide)
  cases e2
  rw [Nat.mul_one] at hfz
  refine ⟨a, oa, b, ob, rfl, rfl, hbase, by omega, fun _ => ?_, ?_, q2⟩
  · rw [hb2.cell (p := ⟨a, oa + i, none⟩) ha]
    exact q1
  · rw [hb2.frozen (p := ⟨a, oa + i, none⟩) ha]
    exact hfz

set_option maxHeartbeats 16000000 in
set_option maxRecDepth 100000 in
theorem law08_like (b N c : Nat) (X Y : List Nat) (m : Wld) (w : World) (h : WTwo w b X N c Y m m) :
    Calls Tryz.prog 29 #[.pointer (some ⟨b, 0, none⟩), .pointer (some ⟨c, 0, none⟩)] w fun e w' => e = .returned (.bool true) ∧ Below w.heap.size w w' := by
  have hnm := h.nm
  have hok := Lib.hid h.ok
  have hfew : m.stores.length ≤ 12 := by obtain ⟨V, U, l, f, _, hh⟩ := h.r; exact hh.few
  have hS := world_Suspects b N X m w h.p
  have hSx := Lib.hid fun W (hW : Below w.heap.size w W) => ref08_Suspects c Y m W (h.below hW).r
  have hNc := Lib.hid fun W (hW : Below w.heap.size w W) => world_N b N X m W (h.below hW).p
  have hCl := Lib.hid fun W (hW : Below w.heap.size w W) => world_Calls b N X m W (h.below hW).p
  have hDk := Lib.hid fun W (hW : Below w.heap.size w W) => world_Dark b N X m W (h.below hW).p
  have hUp := Lib.hid fun W (hW : Below w.heap.size w W) (i : Int) => world_Up b N X m i W (h.below hW).p
  have hOb := Lib.hid fun W (hW : Below w.heap.size w W) (i : Int) => world_Objects b N X m i W (h.below hW).p
  have hsee := Lib.hid fun W (hW : Below w.heap.size w W) => RWAt.see (h.below hW).r hnm
  replace h := Lib.hid h
  go_enter Tryz.func29, Tryz.ntmps29
  go_wp2_with fail
  refine hS.mono ?_
  rintro e w1 ⟨v1, rfl, o1, b1⟩
  obtain ⟨A, n, k, rfl⟩ : ∃ A n k, v1 = .slice A n k := by obtain ⟨A, k, e⟩ := Owns.form o1; exact ⟨A, _, k, e⟩
  replace o1 := Lib.hid o1
  go_wp2_with fail
  refine (hSx.out _ b1).mono ?_
  rintro e w2 ⟨v2, rfl, o2, b2⟩
  obtain ⟨A', n', k', rfl⟩ : ∃ A n k, v2 = .slice A n k := by obtain ⟨A, k, e⟩ := Owns.form o2; exact ⟨A, _, k, e⟩
  obtain ⟨rfl, hn9, hsp⟩ := Sp.start o1.out b1 o2 b2
  clear o1 o2 hS hSx
  have hb2 := hsp.1
  obtain ⟨g, cg, lc, lg, x0, x2, x4, hst⟩ := hsee.out _ hb2
  have e1 : ((m.stores.length : Int) != (m.stores.length : Int)) = false := by simp
  have e2 : ((m.calls : Int) != (m.calls : Int)) = false := by simp
  have e3 : (m.dark != m.dark) = false := by simp
  have e4 : ((n' : Int) != (n' : Int)) = false := by simp
  clear hst b1 b2
  replace hsp := Lib.hid hsp
  replace hok := hok
  go_wp2_with fail
  go_quiet ((first | (with_reducible exact Calls.quiet_of_same (hNc.out _ (below_drewN hb2 _))) | (with_reducible exact Calls.quiet_of_same (hCl.out _ (below_drewN hb2 _))) | (with_reducible exact Calls.quiet_of_same (hDk.out _ (below_drewN hb2 _)))))
  clear e1 e2 e3 e4
  go_wp2_with fail
  go_loopw [7] (fun i wr => ∃ j : Nat, j ≤ n' ∧ i = .int .i64 j ∧ Sp w wr A A' n' j m.suspects) (fun i _ => n' - (intOf i).toNat)
  case atStart => exact ⟨0, Nat.zero_le _, rfl, below_drewN hsp.out.1 _, hsp.out.2⟩
  clear hsp hb2 x0 x2 x4
  obtain ⟨j, hj, rfl, hP⟩ := hrel
  obtain ⟨wp, rfl⟩ : ∃ x : World, x = wr := ⟨_, rfl⟩
  rcases Nat.lt_or_ge j n' with hlt | hge
  case inl =>
    obtain ⟨a, oa, b', ob, x, rfl, rfl, q0, qf, q1, hnx⟩ := hP.at_ hlt
    have e0 : (x != x) = false := by simp
    replace hnx := Lib.hid hnx
    replace hP := Lib.hid hP
    go_wp2_with fail
    go_quiet (fail)
    have z0 : (wp.drewN nq).cell? ⟨a, oa + j, none⟩ = some (.int .i64 x) := q0
    have zf : (wp.drewN nq).frozen? ⟨a, oa + j, none⟩ = false := qf
    go_wp2_with fail
    go_roundw
    case rel => exact ⟨j + 1, by omega, by go_num, hnx.out nq⟩
    case measure => simp [intOf]; omega
  obtain rfl : j = n' := by omega
  have hbr0 := hP.1
  clear hP hj hge
  obtain ⟨g, cg, lc, lg, x0, x2, x4, hst⟩ := hsee.out _ hbr0
  clear hst x2 x4
  go_wp2_with fail
  go_loopw [8, 9, 10] (fun ti _ _ wr => ∃ j : Nat, j ≤ m.stores.length ∧ ti = .int .i64 j ∧ Below w.heap.size w wr) (fun ti _ _ _ => m.stores.length - (intOf ti).toNat)
  case atStart => exact ⟨0, Nat.zero_le _, rfl, hbr0⟩
  clear x0 lc lg hbr0
  obtain ⟨i, hi, rfl, hbr⟩ := hrel
  obtain ⟨wq, rfl⟩ : ∃ x : World, x = wr := ⟨_, rfl⟩
  obtain ⟨g, cg, lc, lg, x0, x2, x4, hst⟩ := hsee.out _ hbr
  clear x2 x4
  rcases Nat.lt_or_ge i m.stores.length with hlt | hge
  case inl =>
    obtain ⟨q, s, u, F, hx, r0, hr⟩ := hst i hlt
    obtain ⟨hup, hob⟩ := up_of hx
    have hs9 := hok.out _ (List.mem_of_getElem? hx)
    have hO := hOb.out _ hbr i
    rw [hob] at hO
    replace hs9 := Lib.hid hs9
    replace hob := Lib.hid hob
    replace hx := Lib.hid hx
    replace hr := Lib.hid hr
    clear hst
    go_wp2_with fail
    refine hO.mono ?_
    rintro e w5 ⟨v5, rfl, o5, b5⟩
    obtain ⟨A5, n5, k5, rfl⟩ : ∃ A n k, v5 = .slice A n k := by obtain ⟨A, k, e⟩ := Owns.form o5; exact ⟨A, _, k, e⟩
    have r5 := Lib.hid (Owns.row (k := 2) (fun x => objE.len x) o5)
    have t5 := Lib.hid (Writ.more_ (Owns.writ (k := 2) o5) hbr.size)
    have hn5 := r5.out.2.1
    replace x0 := (b5.cell (p := ⟨c, 0, none⟩) lc).trans x0
    replace r0 := (b5.cell (p := ⟨g, i, none⟩) lg).trans r0
    have hbr5 := hbr.trans (b5.mono hbr.size)
    have z5 := b5.size
    have lc5 : c < w5.heap.size := by omega
    have lg5 : g < w5.heap.size := by omega
    have hU5 := Lib.hid fun W (hW : Below w5.heap.size w5 W) => hUp.out W (hbr5.trans (hW.mono hbr5.size)) i
    rw [hup] at hU5
    have hR5 := Lib.hid fun W (hW : Below w5.heap.size w5 W) => ref07_Up q F s W ((hr.out.below b5).below hW)
    have hQ5 := Lib.hid fun W (hW : Below w5.heap.size w5 W) => ref07_Objects q F N s hs9.out W ((hr.out.below b5).below hW)
    have e0 : ((!s.down) != (!s.down)) = false := by simp
    replace hup := Lib.hid hup
    clear hO o5 b5 lc lg
    go_upto_region 14 with fail
    refine region_krip (fun W : World => Below w5.heap.size w5 W) (by kernel_rfl) ((Below.refl _ _).drew) ?_
    (refine kF.takeL (i := 0) (v := ?_) rfl (by kernel_rfl) (fun _ _ _ h => h) (Or.inl ⟨by rfl, ?_⟩) ?_
     rotate_left
     · (intro wS hSw; (try dsimp only at hSw); have hcS := fun b o (h : b < w5.heap.size) => hSw.cell (p := ⟨b, o, none⟩) h; go_simp; (try with_reducible rfl))
     try simp only [Act.put, List.setIfInBounds_toArray, List.set_cons_zero, List.set_cons_succ])
    (refine kF.takeL (i := 1) (v := ?_) rfl (by kernel_rfl) (fun _ _ _ h => h) (Or.inl ⟨by rfl, ?_⟩) ?_
     rotate_left
     · (intro wS hSw; (try dsimp only at hSw); have hcS := fun b o (h : b < w5.heap.size) => hSw.cell (p := ⟨b, o, none⟩) h; go_simp; (try with_reducible rfl))
     try simp only [Act.put, List.setIfInBounds_toArray, List.set_cons_zero, List.set_cons_succ])
    (refine kF.takeL (i := 3) (v := ?_) rfl (by kernel_rfl) (fun _ _ _ h => h) (Or.inl ⟨by rfl, ?_⟩) ?_
     rotate_left
     · (intro wS hSw; (try dsimp only at hSw); have hcS := fun b o (h : b < w5.heap.size) => hSw.cell (p := ⟨b, o, none⟩) h; go_simp; (try with_reducible rfl))
     try simp only [Act.put, List.setIfInBounds_toArray, List.set_cons_zero, List.set_cons_succ])
    (refine kF.takeL (i := 4) (v := ?_) rfl (by kernel_rfl) (fun _ _ _ h => h) (Or.inl ⟨by rfl, ?_⟩) ?_
     rotate_left
     · (intro wS hSw; (try dsimp only at hSw); have hcS := fun b o (h : b < w5.heap.size) => hSw.cell (p := ⟨b, o, none⟩) h; go_simp; (try with_reducible rfl))
     try simp only [Act.put, List.setIfInBounds_toArray, List.set_cons_zero, List.set_cons_succ])
    (refine kF.takeL (i := 5) (v := ?_) rfl (by kernel_rfl) (fun _ _ _ h => h) (Or.inl ⟨by rfl, ?_⟩) ?_
     rotate_left
     · (intro wS hSw; (try dsimp only at hSw); have hcS := fun b o (h : b < w5.heap.size) => hSw.cell (p := ⟨b, o, none⟩) h; go_simp; (try with_reducible rfl))
     try simp only [Act.put, List.setIfInBounds_toArray, List.set_cons_zero, List.set_cons_succ])
    (refine kF.takeL (i := 6) (v := ?_) rfl (by kernel_rfl) (fun _ _ _ h => h) (Or.inl ⟨by rfl, ?_⟩) ?_
     rotate_left
     · (intro wS hSw; (try dsimp only at hSw); have hcS := fun b o (h : b < w5.heap.size) => hSw.cell (p := ⟨b, o, none⟩) h; go_simp; (try with_reducible rfl))
     try simp only [Act.put, List.setIfInBounds_toArray, List.set_cons_zero, List.set_cons_succ])
    (refine kF.takeL (i := 7) (v := ?_) rfl (by kernel_rfl) (fun _ _ _ h => h) (Or.inl ⟨by rfl, ?_⟩) ?_
     rotate_left
     · (intro wS hSw; (try dsimp only at hSw); have hcS := fun b o (h : b < w5.heap.size) => hSw.cell (p := ⟨b, o, none⟩) h; go_simp; (try with_reducible rfl))
     try simp only [Act.put, List.setIfInBounds_toArray, List.set_cons_zero, List.set_cons_succ])
    (refine kF.takeL (i := 8) (v := ?_) rfl (by kernel_rfl) (fun _ _ _ h => h) (Or.inl ⟨by rfl, ?_⟩) ?_
     rotate_left
     · (intro wS hSw; (try dsimp only at hSw); have hcS := fun b o (h : b < w5.heap.size) => hSw.cell (p := ⟨b, o, none⟩) h; go_simp; (try with_reducible rfl))
     try simp only [Act.put, List.setIfInBounds_toArray, List.set_cons_zero, List.set_cons_succ])
    (refine kF.takeL (i := 9) (v := ?_) rfl (by kernel_rfl) (fun _ _ _ h => h) (Or.inl ⟨by rfl, ?_⟩) ?_
     rotate_left
     · (intro wS hSw; (try dsimp only at hSw); have hcS := fun b o (h : b < w5.heap.size) => hSw.cell (p := ⟨b, o, none⟩) h; go_simp; (try with_reducible rfl))
     try simp only [Act.put, List.setIfInBounds_toArray, List.set_cons_zero, List.set_cons_succ])
    (refine kF.lastL (j := 2) rfl (by kernel_rfl) (fun _ _ _ _ _ h => h) (fun _ _ h1 h2 => below_S (Nat.le_refl _) h1 h2) (fun hSk K hK => ?_)
     (go_simp; refine (hU5.out _ hSk).mono ?_; rintro e k2 ⟨rfl, rfl⟩)
     refine hK.out _ _ (below_S (Nat.le_refl _) hSk (Below.refl _ _)) ?_
     clear hK K
     try simp only [Act.put, List.setIfInBounds_toArray, List.set_cons_zero, List.set_cons_succ])
    (refine kF.lastL (j := 10) rfl (by kernel_rfl) (fun _ _ _ _ _ h => h) (fun _ _ h1 h2 => below_S (Nat.le_refl _) h1 h2) (fun hSk K hK => ?_)
     (go_simp; refine (hR5.out _ hSk).mono ?_; rintro e k10 ⟨rfl, rfl⟩)
     refine hK.out _ _ (below_S (Nat.le_refl _) hSk (Below.refl _ _)) ?_
     clear hK K
     try simp only [Act.put, List.setIfInBounds_toArray, List.set_cons_zero, List.set_cons_succ])
    (refine kF.takeL (i := 11) (v := ?_) rfl (by kernel_rfl) (fun _ _ _ h => h) (Or.inl ⟨by rfl, ?_⟩) ?_
     rotate_left
     · (intro wS hSw; (try dsimp only at hSw); have hcS := fun b o (h : b < w5.heap.size) => hSw.cell (p := ⟨b, o, none⟩) h; go_simp; (try with_reducible rfl))
     try simp only [Act.put, List.setIfInBounds_toArray, List.set_cons_zero, List.set_cons_succ])
    (refine kF.takeL (i := 12) (v := ?_) rfl (by kernel_rfl) (fun _ _ _ h => h) (Or.inl ⟨by rfl, ?_⟩) ?_
     rotate_left
     · (intro wS hSw; (try dsimp only at hSw); have hcS := fun b o (h : b < w5.heap.size) => hSw.cell (p := ⟨b, o, none⟩) h; go_simp; (try with_reducible rfl))
     try simp only [Act.put, List.setIfInBounds_toArray, List.set_cons_zero, List.set_cons_succ])
    (refine kF.takeL (i := 13) (v := ?_) rfl (by kernel_rfl) (fun _ _ _ h => h) (Or.inl ⟨by rfl, ?_⟩) ?_
     rotate_left
     · (intro wS hSw; (try dsimp only at hSw); have hcS := fun b o (h : b < w5.heap.size) => hSw.cell (p := ⟨b, o, none⟩) h; go_simp; (try with_reducible rfl))
     try simp only [Act.put, List.setIfInBounds_toArray, List.set_cons_zero, List.set_cons_succ])
    (refine kF.takeL (i := 14) (v := ?_) rfl (by kernel_rfl) (fun _ _ _ h => h) (Or.inl ⟨by rfl, ?_⟩) ?_
     rotate_left
     · (intro wS hSw; (try dsimp only at hSw); have hcS := fun b o (h : b < w5.heap.size) => hSw.cell (p := ⟨b, o, none⟩) h; go_simp; (try with_reducible rfl))
     try simp only [Act.put, List.setIfInBounds_toArray, List.set_cons_zero, List.set_cons_succ])
    (refine kF.takeL (i := 15) (v := ?_) rfl (by kernel_rfl) (fun _ _ _ h => h) (Or.inl ⟨by rfl, ?_⟩) ?_
     rotate_left
     · (intro wS hSw; (try dsimp only at hSw); have hcS := fun b o (h : b < w5.heap.size) => hSw.cell (p := ⟨b, o, none⟩) h; go_simp; (try with_reducible rfl))
     try simp only [Act.put, List.setIfInBounds_toArray, List.set_cons_zero, List.set_cons_succ])
    (refine kF.takeL (i := 16) (v := ?_) rfl (by kernel_rfl) (fun _ _ _ h => h) (Or.inl ⟨by rfl, ?_⟩) ?_
     rotate_left
     · (intro wS hSw; (try dsimp only at hSw); have hcS := fun b o (h : b < w5.heap.size) => hSw.cell (p := ⟨b, o, none⟩) h; go_simp; (try with_reducible rfl))
     try simp only [Act.put, List.setIfInBounds_toArray, List.set_cons_zero, List.set_cons_succ])
    (refine kF.takeL (i := 17) (v := ?_) rfl (by kernel_rfl) (fun _ _ _ h => h) (Or.inl ⟨by rfl, ?_⟩) ?_
     rotate_left
     · (intro wS hSw; (try dsimp only at hSw); have hcS := fun b o (h : b < w5.heap.size) => hSw.cell (p := ⟨b, o, none⟩) h; go_simp; (try with_reducible rfl))
     try simp only [Act.put, List.setIfInBounds_toArray, List.set_cons_zero, List.set_cons_succ])
    (refine kF.takeL (i := 18) (v := ?_) rfl (by kernel_rfl) (fun _ _ _ h => h) (Or.inl ⟨by rfl, ?_⟩) ?_
     rotate_left
     · (intro wS hSw; (try dsimp only at hSw); have hcS := fun b o (h : b < w5.heap.size) => hSw.cell (p := ⟨b, o, none⟩) h; go_simp; (try with_reducible rfl))
     try simp only [Act.put, List.setIfInBounds_toArray, List.set_cons_zero, List.set_cons_succ])
    (refine kF.takeL (i := 19) (v := ?_) rfl (by kernel_rfl) (fun _ _ _ h => h) (Or.inl ⟨by rfl, ?_⟩) ?_
     rotate_left
     · (intro wS hSw; (try dsimp only at hSw); have hcS := fun b o (h : b < w5.heap.size) => hSw.cell (p := ⟨b, o, none⟩) h; go_simp; (try with_reducible rfl))
     try simp only [Act.put, List.setIfInBounds_toArray, List.set_cons_zero, List.set_cons_succ])
    (refine kF.takeL (i := 20) (v := ?_) rfl (by kernel_rfl) (fun _ _ _ h => h) (Or.inl ⟨by rfl, ?_⟩) ?_
     rotate_left
     · (intro wS hSw; (try dsimp only at hSw); have hcS := fun b o (h : b < w5.heap.size) => hSw.cell (p := ⟨b, o, none⟩) h; go_simp; (try with_reducible rfl))
     try simp only [Act.put, List.setIfInBounds_toArray, List.set_cons_zero, List.set_cons_succ])
    (refine kF.lastL (j := 21) rfl (by kernel_rfl) (fun _ _ _ _ _ h => h) (fun _ _ h1 h2 => below_S (Nat.le_refl _) h1 h2) (fun hSk K hK => ?_)
     (go_simp; refine (hQ5.out _ hSk).mono ?_; rintro e k21 ⟨v21, rfl, o21, b21⟩)
     refine hK.out _ _ (below_S (Nat.le_refl _) hSk b21) ?_
     clear hK K
     try simp only [Act.put, List.setIfInBounds_toArray, List.set_cons_zero, List.set_cons_succ])
    obtain ⟨A9, n9, k9, rfl⟩ : ∃ A n k, v21 = .slice A n k := by obtain ⟨A, k, e⟩ := Owns.form o21; exact ⟨A, _, k, e⟩
    have r21 := Lib.hid (Owns.row (k := 2) (fun x => objE.len x) o21)
    clear o21
    (refine kF.lastL (j := 22) rfl (by kernel_rfl) (fun _ _ _ _ _ h => h) (fun _ _ h1 h2 => below_S (Nat.le_refl _) h1 h2) (fun hSk K hK => ?_)
     (go_simp; refine (ref08_SameObjects A5 n5 k5 A9 n9 k9 s.seen _ ((r5.out.below hSk).more hSk.size) r21.out).mono ?_; rintro e k22 ⟨rfl, b22⟩)
     refine hK.out _ _ (below_S (Nat.le_refl _) hSk b22) ?_
     clear hK K
     try simp only [Act.put, List.setIfInBounds_toArray, List.set_cons_zero, List.set_cons_succ])
    (refine kF.takeL (i := 23) (v := ?_) rfl (by kernel_rfl) (fun _ _ _ h => h) (Or.inl ⟨by rfl, ?_⟩) ?_
     rotate_left
     · (intro wS hSw; (try dsimp only at hSw); have hcS := fun b o (h : b < w5.heap.size) => hSw.cell (p := ⟨b, o, none⟩) h; go_simp; (try with_reducible rfl))
     try simp only [Act.put, List.setIfInBounds_toArray, List.set_cons_zero, List.set_cons_succ])
    (refine kF.takeL (i := 24) (v := ?_) rfl (by kernel_rfl) (fun _ _ _ h => h) (Or.inl ⟨by rfl, ?_⟩) ?_
     rotate_left
     · (intro wS hSw; (try dsimp only at hSw); have hcS := fun b o (h : b < w5.heap.size) => hSw.cell (p := ⟨b, o, none⟩) h; go_simp; (try with_reducible rfl))
     try simp only [Act.put, List.setIfInBounds_toArray, List.set_cons_zero, List.set_cons_succ])
    refine kF.done (by kernel_rfl) ?_
    have hb9 : Below w5.heap.size w5 k22 := hSk.trans (b22.mono hSk.size)
    have hbf := hbr5.trans (hb9.mono hbr5.size)
    have tf := t5.out.below hb9
    clear r21 b21 b22 hSk hb9
    go_wp2_with fail
    go_loopw [10] (fun ti wr => ∃ y : Nat, y ≤ n5 ∧ ti = .int .i64 y ∧ Below w.heap.size w wr ∧ Writ 2 wr w.heap.size A5 n5) (fun ti _ => n5 - (intOf ti).toNat)
    case atStart => exact ⟨0, Nat.zero_le _, rfl, hbf, tf⟩
    case round =>
      obtain ⟨y, hy, rfl, hbw, hw⟩ := hrel
      obtain ⟨wz, rfl⟩ : ∃ x : World, x = wr := ⟨_, rfl⟩
      by_cases hlt2 : y < n5
      · obtain ⟨a, off, u, rfl, hba, q0, qf⟩ := hw.at1 hlt2
        replace hw := Lib.hid hw
        go_wp2_with fail
        go_roundw
        case rel => exact ⟨y + 1, by omega, by go_num, hbw.setCell (p := ⟨a, off + y * 2 + 1, none⟩) hba _, hw.out.setCell _ _⟩
        case measure => simp [intOf]; omega
      · obtain rfl : y = n5 := by omega
        clear hw
        go_wp2_with fail
        go_roundw
        case rel => exact ⟨i + 1, by omega, by go_num, hbw⟩
        case measure => simp [intOf]; omega
  clear hst
  have hgi : i = m.stores.length := by omega
  replace hgi := Lib.hid hgi
  have hU1 := hUp.out _ hbr (-1)
  rw [(out_of (.inl (by decide))).1] at hU1
  have hU2 := hUp.out _ hbr (m.stores.length : Int)
  rw [(out_of (.inr (Int.le_refl _))).1] at hU2
  have hO1 := hOb.out _ hbr (-1)
  rw [(out_of (.inl (by decide))).2] at hO1
  go_wp2_with fail
  refine hU1.mono ?_
  rintro e wz ⟨rfl, hw⟩
  obtain rfl := hw.symm
  clear hU1 hw
  go_wp2_with fail
  refine hU2.mono ?_
  rintro e wz ⟨rfl, hw⟩
  obtain rfl := hw.symm
  clear hU2 hw
  go_wp2_with fail
  refine hO1.mono ?_
  rintro e w6 ⟨v6, rfl, o6, b6⟩
  obtain ⟨A6, k6, rfl⟩ : ∃ A k, v6 = .slice A 0 k := by obtain ⟨A, k, e⟩ := Owns.form o6; exact ⟨A, k, e⟩
  have hbr6 := hbr.trans (b6.mono hbr.size)
  have hO2 := hOb.out _ hbr6 (m.stores.length : Int)
  rw [(out_of (.inr (Int.le_refl _))).2] at hO2
  replace x0 := (b6.cell (p := ⟨c, 0, none⟩) lc).trans x0
  clear o6 b6 hO1 lc lg
  go_wp2_with fail
  refine hO2.mono ?_
  rintro e w7 ⟨v7, rfl, o7, b7⟩
  obtain ⟨A7, k7, rfl⟩ : ∃ A k, v7 = .slice A 0 k := by obtain ⟨A, k, e⟩ := Owns.form o7; exact ⟨A, k, e⟩
  have hbr7 := hbr6.trans (b7.mono hbr6.size)
  clear o7 b7 hO2
  go_wp2_with fail
  go_ret
  exact ⟨rfl, hbr7⟩
end Go.Proofs.YtfkonpmnclknaaaGreat
