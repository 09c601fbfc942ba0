/-
  Copy of the reference's store.
-/
import Derived.Test.YtfkonpmnclknaaaGreatRwlC
namespace Go.Proofs.YtfkonpmnclknaaaGreat
open Go.RowKit
attribute [local go_sem ↓] Go.wp_at_zero Go.wp_at_succ

set_option maxHeartbeats 4000000 in
set_option maxRecDepth 100000 in
theorem ref07_Copy (b : Nat) (F : List Nat) (N : Nat) (s : Sto) (hs : StoOk N s) (w : World) (h : RefAt w b F s) :
    Calls Tryz.prog 55 #[.pointer (some ⟨b, 0, none⟩)] w fun e w' => e = .returned (.pointer (some ⟨w.heap.size, 0, none⟩)) ∧ ∃ F', RefAt w' w.heap.size F' s ∧ Below w.heap.size w w' ∧ ∀ i ∈ F', w.heap.size ≤ i := by
  obtain ⟨G, V, rfl, h⟩ := h
  obtain ⟨A1, n1, c1, rfl⟩ : ∃ A m c, G = .slice A m c := by obtain ⟨A, c, e⟩ := Owns.form h.good; exact ⟨A, _, c, e⟩
  obtain ⟨A2, n2, c2, rfl⟩ : ∃ A m c, V = .slice A m c := by obtain ⟨A, c, e⟩ := Owns.form h.own; exact ⟨A, _, c, e⟩
  have r1 := Owns.row (k := 2) (fun x => objE.len x) h.good
  have r2 := Owns.row (k := 3) (fun x => wrE.len x) h.own
  have hl1 : n1 ≤ 1000000 := by have := r1.1; have := hs.len; have := hs.cap; omega
  have hl2 : n2 ≤ 1000000 := by have := r2.1; have := hs.len; have := hs.cap; omega
  obtain ⟨z0, z1, z2, z3, z4⟩ := h.box.cells
  have hbl := h.box.lt
  have bx0 := RB.new w (.slice A1 n1 c1) (.slice A2 n2 c2) (.bool s.down) (.int .i64 s.refuse) (.int .i64 s.room)
  have hb0 : Below w.heap.size w (w.alloc (.cells #[.slice A1 n1 c1, .slice A2 n2 c2, .bool s.down, .int .i64 s.refuse, .int .i64 s.room] 100)) := (Below.refl _ w).alloc (Nat.le_refl _) _
  have hz0 : (w.alloc (.cells #[.slice A1 n1 c1, .slice A2 n2 c2, .bool s.down, .int .i64 s.refuse, .int .i64 s.room] 100)).heap.size = w.heap.size + 1 := by simp
  clear h
  go_enter Tryz.func55, Tryz.ntmps55
  go_upto_region 2 with fail
  generalize (w.alloc (.cells #[.slice A1 n1 c1, .slice A2 n2 c2, .bool s.down, .int .i64 s.refuse, .int .i64 s.room] 100)) = w0 at bx0 hb0 hz0 ⊢
  have q0 := (hb0.cell (p := ⟨b, 0, none⟩) hbl).trans z0
  have q1 := (hb0.cell (p := ⟨b, 1, none⟩) hbl).trans z1
  have f0 := bx0.frozen 0
  have hlz : w.heap.size < w0.heap.size := by omega
  have hbl0 : b < w0.heap.size := by omega
  replace hz0 := Lib.hid hz0
  have rr1 := r1.to hb0
  have rr2 := r2.to hb0
  go_upto_region 3 with (at_builtin; go_must (refine Elem.wpList_row objE rfl (.tmp 7) (.tmp 11) rfl w0.heap.size (.slice (some ⟨w0.heap.size, 0, none⟩) 0 0) [] rfl A1 n1 c1 s.good rfl (Owns.emptyAt w0 rfl (Nat.le_refl _)) w0.heap.size (RowAt.alloc rr1 (Nat.le_refl _) _) (by simp; omega) (by first | omega | (simp; try omega)) ?_); intro v1 w1 o1 hg1 hat1; rw [List.nil_append] at o1; obtain ⟨B1, p1, rfl⟩ := o1.form; have hb1 : Below w0.heap.size w0 w1 := Below.grownOwn (by repeat (first | exact Below.refl _ _ | assumption | refine Below.drew ?_ | refine below_drewN ?_ _ | refine Below.alloc ?_ (by first | omega | (simp; try omega)) _ | refine Below.setCell ?_ (by first | omega | (simp; try omega)) _ | (refine Below.trans ?_ (Below.mono (by assumption) (by first | omega | (simp; try omega)))))) (Owns.emptyAt (k := objE.k) (enc := objE.enc) (T := objE.T) w0 rfl (Nat.le_refl _)) (Nat.le_refl _) (by first | omega | (simp; try omega)) hg1; have bx1 := bx0.block (hb1.block _ (by omega)); have f1 := bx1.frozen 0; have y0 := bx1.cells.1; have hz1 := hb1.size)
  have bx2 := Lib.hid (bx1.set0 (.slice B1 s.good.length p1))
  have hb2 : Below w0.heap.size w0 w1 := hb1
  have hbw : Below w.heap.size w (w1.setCell ⟨w.heap.size, 0, none⟩ (.slice B1 s.good.length p1)) := (hb0.trans (hb1.mono (by omega))).setCell (p := ⟨w.heap.size, 0, none⟩) (Nat.le_refl _) _
  have og : objE.Own (w1.setCell ⟨w.heap.size, 0, none⟩ (.slice B1 s.good.length p1)) w0.heap.size (.slice B1 s.good.length p1) s.good := o1.blockS fun i e => Go.Deep.blk_setCell_other _ _ _ _ (fun e' => by have := (o1.within e).1; have e2 : i = w.heap.size := e'; omega)
  have rr3 := r2.to hbw
  have q3 := (hbw.cell (p := ⟨b, 1, none⟩) hbl).trans z1
  have hz2 : w.heap.size < (w1.setCell ⟨w.heap.size, 0, none⟩ (.slice B1 s.good.length p1)).heap.size := by simp; omega
  have hz3 : w0.heap.size ≤ (w1.setCell ⟨w.heap.size, 0, none⟩ (.slice B1 s.good.length p1)).heap.size := by simp; omega
  have hogl : ∀ i, (Value.slice B1 s.good.length p1).ownBlock = some i → w0.heap.size ≤ i ∧ i < (w1.setCell ⟨w.heap.size, 0, none⟩ (.slice B1 s.good.length p1)).heap.size := fun i e => og.within e
  clear o1 hg1 hat1 hb1 bx1 f1 y0 hz1 q0 q1 f0 rr1 rr2 bx0
  generalize (w1.setCell ⟨w.heap.size, 0, none⟩ (.slice B1 s.good.length p1)) = w2 at bx2 hbw og rr3 q3 hz2 hz3 hogl ⊢
  replace og := Lib.hid og
  replace hogl := Lib.hid hogl
  clear hb2
  have hbl2 : b < w2.heap.size := by omega
  go_wp2_with (at_builtin; go_must (refine Elem.wpList_row wrE rfl (.tmp 14) (.tmp 18) rfl w2.heap.size (.slice (some ⟨w2.heap.size, 0, none⟩) 0 0) [] rfl A2 n2 c2 s.writes rfl (Owns.emptyAt w2 rfl (Nat.le_refl _)) w2.heap.size (RowAt.alloc rr3 (Nat.le_refl _) _) (by simp; omega) (by first | omega | (simp; try omega)) ?_); intro v4 w4 o4 hg4 hat4; rw [List.nil_append] at o4; obtain ⟨B4, p4, rfl⟩ := o4.form; have hb4 : Below w2.heap.size w2 w4 := Below.grownOwn (by repeat (first | exact Below.refl _ _ | assumption | refine Below.drew ?_ | refine below_drewN ?_ _ | refine Below.alloc ?_ (by first | omega | (simp; try omega)) _ | refine Below.setCell ?_ (by first | omega | (simp; try omega)) _ | (refine Below.trans ?_ (Below.mono (by assumption) (by first | omega | (simp; try omega)))))) (Owns.emptyAt (k := wrE.k) (enc := wrE.enc) (T := wrE.T) w2 rfl (Nat.le_refl _)) (Nat.le_refl _) (by first | omega | (simp; try omega)) hg4; have bx4 := bx2.out.block (hb4.block _ (by omega)); have f4 := bx4.frozen 1; have y4 := bx4.cells.2.1; have hz4 := hb4.size)
  go_ret
  have hl4 := fun i e => o4.within (i := i) e
  have hfin : Below w.heap.size w (w4.setCell ⟨w.heap.size, 1, none⟩ (.slice B4 s.writes.length p4)) := (hbw.trans (hb4.mono (by omega))).setCell (p := ⟨w.heap.size, 1, none⟩) (Nat.le_refl _) _
  refine ⟨rfl, _, ⟨.slice B1 s.good.length p1, .slice B4 s.writes.length p4, rfl, ?_⟩, hfin, ?_⟩
  · exact
    { box := bx4.set1 _
      good := (Owns.from og.out (Nat.zero_le _)).blockS fun i e => by
        have := hogl.out i e
        exact (Go.Deep.blk_setCell_other _ _ _ _ (by show i ≠ w.heap.size; omega)).trans (hb4.block i (by omega))
      own := (Owns.from o4 (Nat.zero_le _)).blockS fun i e => by
        have := hl4 i e
        exact Go.Deep.blk_setCell_other _ _ _ _ (by show i ≠ w.heap.size; omega)
      ap := by
        simp only [List.nodup_cons, List.mem_append, Option.mem_toList, Option.mem_def, not_or]
        refine ⟨⟨fun e => by have := hogl.out _ e; omega, fun e => by have := hl4 _ e; omega⟩, ?_⟩
        cases e1 : (Value.slice B1 s.good.length p1).ownBlock with
        | none => cases e2 : (Value.slice B4 s.writes.length p4).ownBlock <;> simp
        | some x =>
          cases e2 : (Value.slice B4 s.writes.length p4).ownBlock with
          | none => simp
          | some y =>
            have h1 := hogl.out x e1
            have h2 := hl4 y e2
            simp
            omega }
  · intro i hi
    simp only [List.mem_cons, List.mem_append, Option.mem_toList, Option.mem_def] at hi
    rcases hi with rfl | e | e
    · exact Nat.le_refl _
    · have := hogl.out i e
      omega
    · have := hl4 i e
      omega
end Go.Proofs.YtfkonpmnclknaaaGreat
/-
  Crash, Suspects, Clear of the reference's world.
-/
namespace Go.Proofs.YtfkonpmnclknaaaGreat
open Go.RowKit
attribute [local go_sem ↓] Go.wp_at_zero Go.wp_at_succ

theorem susp_mark (m : Wld) (i : Nat) (u : Bool) : (m.mark i u).susp = m.susp.set i u := by
  unfold Wld.susp
  refine List.ext_getElem? fun j => ?_
  rw [List.getElem?_map, mark_at, List.getElem?_set, List.getElem?_map, List.length_map]
  by_cases h : i = j
  · subst h
    by_cases hl : i < m.stores.length
    · rw [List.getElem?_eq_getElem hl]
      simp [hl]
    · rw [List.getElem?_eq_none (by omega)]
      simp [hl]
  · cases m.stores[j]? <;> simp [h]
/-- A mark is another one. -/
theorem RWIn.mark {w : World} {b g n c i : Nat} {V : Value} {l : List Nat} {f : Nat → List Nat} {m : Wld} {s : Sto} {u : Bool} (h : RWIn w b V (.slice (some ⟨g, 0, none⟩) n c) l f m) (hx : m.stores[i]? = some (s, u)) (u' : Bool) :
    RWIn (w.setCell ⟨g, i, none⟩ (.bool u')) b V (.slice (some ⟨g, 0, none⟩) n c) l f (m.mark i u') := by
  have hgb : g ≠ b := fun e => h.apU (by rw [e]; rfl)
  have hml : (m.mark i u').stores.length = m.stores.length := by simp [Wld.mark]
  have hsx : m.susp[i]? = some u := by unfold Wld.susp; rw [List.getElem?_map, hx]; rfl
  have hown := Owns.setAt (k := 1) (fun x => boE.len x) h.ownU (x' := u') (u := .bool u') (j := 0) hsx rfl (by decide)
  rw [Nat.mul_one, Nat.add_zero] at hown
  exact
  { box := h.box.block (Go.Deep.blk_setCell_other _ _ _ _ (fun e => hgb e.symm))
    own := h.own.blockS fun j e => Go.Deep.blk_setCell_other _ _ _ _ (fun e' => h.apVU j e (by rw [show j = g from e']; rfl))
    ownU := by rw [susp_mark]; exact hown
    len := by rw [hml]; exact h.len
    sto := fun j t v hj => by
      rw [mark_at] at hj
      cases hmj : m.stores[j]? with
      | none => rw [hmj] at hj; simp at hj
      | some p =>
        obtain ⟨t0, v0⟩ := p
        rw [hmj] at hj
        simp only [Option.map_some, Option.some.injEq] at hj
        have hjl := (List.getElem?_eq_some_iff.1 hmj).1
        obtain ⟨q', h1, h2⟩ := h.sto j t0 v0 hmj
        have h3 := h2.block (w' := w.setCell ⟨g, i, none⟩ (.bool u')) fun x hxf => Go.Deep.blk_setCell_other _ _ _ _ (fun e => h.apu j g hjl rfl (by rw [← show x = g from e]; exact hxf))
        have ht : t0 = t := by
          by_cases hij : i = j
          · rw [if_pos hij] at hj
            cases hj
            rfl
          · rw [if_neg hij] at hj
            cases hj
            rfl
        subst ht
        exact ⟨q', h1, h3⟩
    apV := h.apV, apU := h.apU, apVU := h.apVU
    apb := by rw [hml]; exact h.apb
    apr := by rw [hml]; exact h.apr
    apu := by rw [hml]; exact h.apu
    ap := by rw [hml]; exact h.ap
    few := by rw [hml]; exact h.few
    calls := h.calls, lo := h.lo, hi := h.hi }

set_option maxHeartbeats 4000000 in
set_option maxRecDepth 100000 in
theorem ref08_Suspects (b : Nat) (X : List Nat) (m : Wld) (w : World) (h : RWAt w b X m) :
    Calls Tryz.prog 61 #[.pointer (some ⟨b, 0, none⟩)] w fun e w' => ∃ v, e = .returned v ∧ intE.Own w' w.heap.size v m.suspects ∧ Below w.heap.size w w' := by
  obtain ⟨V, U, l, f, rfl, h⟩ := h
  obtain ⟨A, n, c, rfl⟩ : ∃ A m c, U = .slice A m c := by obtain ⟨A, c, e⟩ := Owns.form h.ownU; exact ⟨A, _, c, e⟩
  have hrow := Owns.row (k := 1) (fun x => boE.len x) h.ownU
  have hn : n = m.stores.length := by rw [← susp_len]; exact hrow.1.symm
  obtain ⟨z0, z1, z2, z3, z4⟩ := h.box.cells
  have hbl := h.box.lt
  have hf : n ≤ 12 := by rw [hn]; exact h.few
  have hlen : Hid (m.suspects = suspTo m.susp n) := by unfold Hid Wld.suspects; rw [hn]
  replace hn := Lib.hid hn
  clear h
  go_enter Tryz.func61, Tryz.ntmps61
  go_wp2_with fail
  go_loopw [3, 4] (fun v ti wr => ∃ k : Nat, k ≤ n ∧ ti = .int .i64 k ∧ intE.Own wr w.heap.size v (suspTo m.susp k) ∧ Below w.heap.size w wr) (fun _ ti _ => n - (intOf ti).toNat)
  case atStart => exact ⟨0, Nat.zero_le _, rfl, Owns.nil_, Below.refl _ _⟩
  case round =>
    obtain ⟨k, hk, rfl, ho, hbr⟩ := hrel
    obtain ⟨wp, rfl⟩ : ∃ x : World, x = wr := ⟨_, rfl⟩
    have y1 := (hbr.cell (p := ⟨b, 1, none⟩) hbl).trans z1
    by_cases hlt : k < n
    · obtain ⟨b0, off, u, rfl, hb0, hp, o0⟩ := (hrow.below hbr).bo hlt
      have hs : m.susp.getD k false = u := by rw [List.getD_eq_getElem?_getD, hp]; rfl
      have hl := suspTo_len m.susp k
      have hzw := hbr.size
      replace hp := Lib.hid hp
      cases u with
      | false =>
        have hs2 : Hid (suspTo m.susp (k + 1) = suspTo m.susp k) := by unfold Hid; rw [suspTo_succ, hs]; rfl
        go_wp2_with fail
        go_roundw
        case rel => exact ⟨k + 1, by omega, by go_num, by rw [hs2.out]; exact (by (repeat (first | with_reducible refine Owns.alloc ?_ _ | with_reducible refine Owns.drew ?_ | with_reducible refine Owns.drewN ?_ _)); exact ho), (by repeat (first | exact Below.refl _ _ | assumption | refine Below.drew ?_ | refine below_drewN ?_ _ | refine Below.alloc ?_ (by first | omega | (simp; try omega)) _ | refine Below.setCell ?_ (by first | omega | (simp; try omega)) _ | (refine Below.trans ?_ (Below.mono (by assumption) (by first | omega | (simp; try omega))))))⟩
        case measure => simp [intOf]; omega
      | true =>
        have hs2 : Hid (suspTo m.susp (k + 1) = suspTo m.susp k ++ [(k : Int)]) := by unfold Hid; rw [suspTo_succ, hs]; rfl
        go_wp2_with (at_builtin; go_must (refine Elem.wpList_one intE rfl (.tmp 21) (.tmp 23) rfl w.heap.size _ (suspTo m.susp k) rfl _ _ ((k : Nat) : Int) rfl (Owns.alloc ho _) (fun j u hu => by rcases j with _ | _ | _ | j <;> simp [intE, intCell] at hu <;> subst hu <;> go_simp) (by first | omega | (simp; omega)) (by first | omega | (simp; try omega)) ?_); intro v9 w9 hown9 hg9 hat9; have hbb9 : Below w.heap.size w w9 := Below.grownOwn (by repeat (first | exact Below.refl _ _ | assumption | refine Below.drew ?_ | refine below_drewN ?_ _ | refine Below.alloc ?_ (by first | omega | (simp; try omega)) _ | refine Below.setCell ?_ (by first | omega | (simp; try omega)) _ | (refine Below.trans ?_ (Below.mono (by assumption) (by first | omega | (simp; try omega)))))) (Owns.alloc ho _) (Nat.le_refl _) (by first | omega | (simp; try omega)) hg9; have hzz9 := hbb9.size)
        go_roundw
        case rel => exact ⟨k + 1, by omega, by go_num, by rw [hs2.out]; exact hown9, (by repeat (first | exact Below.refl _ _ | assumption | refine Below.drew ?_ | refine below_drewN ?_ _ | refine Below.alloc ?_ (by first | omega | (simp; try omega)) _ | refine Below.setCell ?_ (by first | omega | (simp; try omega)) _ | (refine Below.trans ?_ (Below.mono (by assumption) (by first | omega | (simp; try omega))))))⟩
        case measure => simp [intOf]; omega
    · obtain rfl : k = n := by omega
      obtain ⟨A9, m9, c9, rfl⟩ : ∃ A m c, u3 = .slice A m c := by obtain ⟨A, c, e⟩ := Owns.form ho; exact ⟨A, _, c, e⟩
      replace ho := Lib.hid ho
      go_wp2_with fail
      go_ret
      exact ⟨_, rfl, by rw [hlen.out]; exact ho.out, hbr⟩

set_option maxHeartbeats 4000000 in
set_option maxRecDepth 100000 in
theorem ref08_Clear (b : Nat) (X : List Nat) (m : Wld) (w : World) (h : RWAt w b X m) (hne : 0 < m.stores.length) :
    Calls Tryz.prog 45 #[.pointer (some ⟨b, 0, none⟩)] w fun e w' => e = .returned (.tuple #[]) ∧ RWTo b X m.clear w w' := by
  obtain ⟨V, U, l, f, rfl, h⟩ := h
  obtain ⟨gv, cv, rfl⟩ := h.rowForm hne
  obtain ⟨g, c, rfl, hfz⟩ := h.suspForm hne
  have hgX : g ∈ rBlocks b (.slice (some ⟨gv, 0, none⟩) m.stores.length cv) (.slice (some ⟨g, 0, none⟩) m.stores.length c) f m.stores.length := mem_rBlocks.2 (.inr (.inr (.inl rfl)))
  have hst0 : RWIn w b (.slice (some ⟨gv, 0, none⟩) m.stores.length cv) (.slice (some ⟨g, 0, none⟩) m.stores.length c) l f (m.clearTo 0) := by rw [clearTo_zero]; exact h
  have hcl : ∀ k, (m.clearTo k).stores.length = m.stores.length := fun k => by simp [Wld.clearTo]
  have hfew := h.few
  obtain ⟨n, hn⟩ : ∃ n, n = m.stores.length := ⟨_, rfl⟩
  have hbut0 : But [g] w w := But.refl _ _
  replace hcl := Lib.hid hcl
  replace hgX := Lib.hid hgX
  clear h hfz
  rw [← hn] at hst0 hfew
  replace hn := Lib.hid hn
  go_enter Tryz.func45, Tryz.ntmps45
  go_wp2_with fail
  go_loopw [2] (fun ti wr => ∃ k : Nat, k ≤ n ∧ ti = .int .i64 k ∧ RWIn wr b (.slice (some ⟨gv, 0, none⟩) n cv) (.slice (some ⟨g, 0, none⟩) n c) l f (m.clearTo k) ∧ But [g] w wr) (fun ti _ => n - (intOf ti).toNat)
  case atStart => exact ⟨0, Nat.zero_le _, rfl, hst0, hbut0⟩
  case round =>
    obtain ⟨k, hk, rfl, hW, hbr⟩ := hrel
    obtain ⟨wp, rfl⟩ : ∃ x : World, x = wr := ⟨_, rfl⟩
    obtain ⟨y0, y1, _, _, _⟩ := hW.box.cells
    by_cases hlt : k < n
    · obtain ⟨s, u, q, hx, hq, hst⟩ := hW.at_ (i := k) (by rw [hcl.out, ← hn.out]; exact hlt)
      obtain ⟨b0, off, pr, e0, hb0, hpr, o0⟩ := (Owns.row (k := 1) (fun x => ptE.len x) hW.own).pt (i := k) hlt
      obtain ⟨b1, off1, u1, e1, hb1, hpu, o1⟩ := (Owns.row (k := 1) (fun x => boE.len x) hW.ownU).bo (i := k) hlt
      simp only [Option.some.injEq, Addr.mk.injEq, and_true] at e0 e1
      obtain ⟨rfl, rfl⟩ := e0
      obtain ⟨rfl, rfl⟩ := e1
      obtain rfl : pr = q := by rw [hq] at hpr; exact (Option.some.inj hpr).symm
      simp only [Nat.zero_add] at o0 o1
      have hf1 : wp.frozen? ⟨g, k, none⟩ = false := by
        rcases hW.ownU.2 with ⟨e, _⟩ | ⟨g', cap, cur, e, _, hh', _⟩
        · cases e
        · cases e
          simp [World.frozen?, hh']
      have hxm : m.stores[k]? = some (s, u) := by
        rw [clearTo_at] at hx
        cases hm : m.stores[k]? with
        | none => rw [hm] at hx; simp at hx
        | some p =>
          obtain ⟨p1, p2⟩ := p
          rw [hm] at hx
          simpa using hx
      have hS := ref07_Sound pr (f k) s wp hst
      have hu := Lib.hid fun v => hW.mark hx v
      replace hW := Lib.hid hW
      replace hpr := Lib.hid hpr
      replace hpu := Lib.hid hpu
      replace hq := Lib.hid hq
      replace hx := Lib.hid hx
      replace hxm := Lib.hid hxm
      clear hst hb0 hb1
      cases hs : s.sound with
      | false =>
        have hW2 : Hid (RWIn wp b (.slice (some ⟨gv, 0, none⟩) n cv) (.slice (some ⟨g, 0, none⟩) n c) l f (m.clearTo (k + 1))) := by unfold Hid; rw [← clearTo_no hxm.out hs]; exact hW.out
        rw [hs] at hS
        replace hs := Lib.hid hs
        go_wp2_with fail
        refine hS.mono ?_
        rintro e w1 ⟨rfl, rfl⟩
        go_wp2_with fail
        go_roundw
        case rel => exact ⟨k + 1, by omega, by go_num, hW2.out, hbr⟩
        case measure => simp [intOf]; omega
      | true =>
        have hW2 : Hid (RWIn (wp.setCell ⟨g, k, none⟩ (.bool false)) b (.slice (some ⟨gv, 0, none⟩) n cv) (.slice (some ⟨g, 0, none⟩) n c) l f (m.clearTo (k + 1))) := by unfold Hid; rw [← clearTo_yes hxm.out hs]; exact hu.out false
        rw [hs] at hS
        replace hs := Lib.hid hs
        go_wp2_with fail
        refine hS.mono ?_
        rintro e w1 ⟨rfl, rfl⟩
        go_wp2_with fail
        go_roundw
        case rel => exact ⟨k + 1, by omega, by go_num, hW2.out, hbr.trans (But.of_set (F := [g]) _ (by simp)) (by simp)⟩
        case measure => simp [intOf]; omega
    · obtain rfl : k = n := by omega
      replace hW := Lib.hid hW
      go_wp2_with fail
      go_end0
      refine ⟨rfl, _, ⟨_, _, l, f, rfl, by rw [← clearTo_all, ← hn.out]; exact hW.out⟩, hbr.more (by intro x hx; simp at hx; subst hx; exact hgX.out), fun x hx => .inl ?_⟩
      rw [hn.out] at hx
      simpa [Wld.clear] using hx

set_option maxHeartbeats 4000000 in
set_option maxRecDepth 100000 in
theorem ref08_Crash (b N : Nat) (X : List Nat) (m : Wld) (A : Option Addr) (nl c : Nat) (ks : List Surv) (B : Nat) (w : World) (h : RWAt w b X m) (hok : ∀ p ∈ m.stores, StoOk N p.1) (hs : SurvsAt w B A nl ks) (hk : ∀ x ∈ ks, IntsAt w B x.A x.n x.keep) (hB : B ≤ w.heap.size) (hlo : ∀ x ∈ X, B ≤ x) (hne : 0 < m.stores.length) :
    Calls Tryz.prog 19 #[.pointer (some ⟨b, 0, none⟩), .slice A nl c] w fun e w' => e = .returned (.tuple #[]) ∧ RWTo b X (m.crash (ks.map Surv.keep)) w w' := by
  obtain ⟨V, U, l, f, rfl, h⟩ := h
  obtain ⟨g, cc, rfl⟩ := h.rowForm hne
  have hW0 : RWIn w b (.slice (some ⟨g, 0, none⟩) m.stores.length cc) U l f (m.crashTo (ks.map Surv.keep) 0) := by rw [crashTo_zero]; exact h
  have hfew := h.few
  have hnl : Hid (ks.length = nl) := hs.1
  have hbut0 : But (rBlocks b (.slice (some ⟨g, 0, none⟩) m.stores.length cc) U f m.stores.length) w w := But.refl _ _
  have hlo2 := fun w' (k : But (rBlocks b (.slice (some ⟨g, 0, none⟩) m.stores.length cc) U f m.stores.length) w w') => k.below hB hlo
  have hnew0 : ∀ x ∈ rBlocks b (.slice (some ⟨g, 0, none⟩) m.stores.length cc) U f m.stores.length, x ∈ rBlocks b (.slice (some ⟨g, 0, none⟩) m.stores.length cc) U f m.stores.length ∨ w.heap.size ≤ x := fun x hx => .inl hx
  have hbX : b ∈ rBlocks b (.slice (some ⟨g, 0, none⟩) m.stores.length cc) U f m.stores.length := mem_rBlocks.2 (.inl rfl)
  obtain ⟨n, hn⟩ : ∃ n, n = m.stores.length := ⟨_, rfl⟩
  rw [← hn] at hW0 hfew hbut0 hlo2 hnew0 hbX hlo
  generalize hX : rBlocks b (.slice (some ⟨g, 0, none⟩) n cc) U f n = X at hbut0 hlo2 hnew0 hbX hlo
  have hnn : Hid (∀ k, (m.crashTo (ks.map Surv.keep) k).stores.length = n) := by unfold Hid; intro k; rw [crashTo_len, hn]
  have hfin : Hid (∀ w', RWTo b X (m.crash (ks.map Surv.keep)) w w' → RWTo b (rBlocks b (.slice (some ⟨g, 0, none⟩) m.stores.length cc) U f m.stores.length) (m.crash (ks.map Surv.keep)) w w') := by unfold Hid; intro w' k; rw [← hn, hX]; exact k
  replace hlo2 := Lib.hid hlo2
  replace hlo := Lib.hid hlo
  replace hk := Lib.hid hk
  replace hn := Lib.hid hn
  replace hX := Lib.hid hX
  replace hok := Lib.hid hok
  clear h hne
  go_enter Tryz.func19, Tryz.ntmps19
  go_wp2_with fail
  go_loopw [4, 5] (fun ti _ wr => ∃ (k : Nat) (f' : Nat → List Nat), k ≤ n ∧ ti = .int .i64 k ∧ RWIn wr b (.slice (some ⟨g, 0, none⟩) n cc) U l f' (m.crashTo (ks.map Surv.keep) k) ∧ But X w wr ∧ Hid (∀ x ∈ rBlocks b (.slice (some ⟨g, 0, none⟩) n cc) U f' n, x ∈ X ∨ w.heap.size ≤ x)) (fun ti _ _ => n - (intOf ti).toNat)
  case atStart => exact ⟨0, f, Nat.zero_le _, rfl, hW0, hbut0, by unfold Hid; rw [hX.out]; exact hnew0⟩
  case round =>
    obtain ⟨k, f', hkn, rfl, hW, hbr, hnw⟩ := hrel
    obtain ⟨wp, rfl⟩ : ∃ x : World, x = wr := ⟨_, rfl⟩
    have hBw := hlo2.out _ hbr
    have hBz : B ≤ wp.heap.size := Nat.le_trans hB hBw.size
    obtain ⟨y0, _, _, _, _⟩ := hW.box.cells
    by_cases hlt : k < n
    · obtain ⟨s, u, q, hx, hq, hst⟩ := hW.at_ (i := k) (by rw [hnn.out]; exact hlt)
      obtain ⟨b0, off, pr, e0, hb0, hpr, o0⟩ := (Owns.row (k := 1) (fun x => ptE.len x) hW.own).pt (i := k) hlt
      simp only [Option.some.injEq, Addr.mk.injEq, and_true] at e0
      obtain ⟨rfl, rfl⟩ := e0
      obtain rfl : pr = q := by rw [hq] at hpr; exact (Option.some.inj hpr).symm
      simp only [Nat.zero_add] at o0
      have hzw := hbr.size
      have hso : StoOk N s := by
        have hx2 := hx
        rw [crashTo_at] at hx2
        cases hm : m.stores[k]? with
        | none => rw [hm] at hx2; simp at hx2
        | some p =>
          obtain ⟨p1, p2⟩ := p
          rw [hm] at hx2
          simp only [Nat.lt_irrefl, if_false, Option.map_some, Option.some.injEq, Prod.mk.injEq] at hx2
          obtain ⟨rfl, rfl⟩ := hx2
          exact hok.out _ (List.mem_of_getElem? hm)
      have hfB : ∀ x ∈ f' k, B ≤ x := fun x hxf => by
        rcases hnw.out x (mem_rBlocks.2 (.inr (.inr (.inr ⟨k, hlt, hxf⟩)))) with e | e
        · exact hlo.out x e
        · omega
      have hstep := Lib.hid fun kp w' (hkp : (ks.map Surv.keep).getD k [] = kp) (hto : RefTo pr (f' k) (s.crash kp) wp w') => show ∃ f'', RWIn w' b (.slice (some ⟨g, 0, none⟩) n cc) U l f'' (m.crashTo (ks.map Surv.keep) (k + 1)) ∧ But X w w' ∧ Hid (∀ x ∈ rBlocks b (.slice (some ⟨g, 0, none⟩) n cc) U f'' n, x ∈ X ∨ w.heap.size ≤ x) by
        obtain ⟨f2, r1, r2, r3⟩ := hW.call hx hq hto
        rw [crashTo_succ hx hkp] at r1
        have hfk : ∀ x ∈ f' k, x ∈ X ∨ w.heap.size ≤ x := fun x hx => hnw.out x (mem_rBlocks.2 (.inr (.inr (.inr ⟨k, hlt, hx⟩))))
        refine ⟨f2, r1, hbr.trans r2 hfk, fun x hx => ?_⟩
        rw [hnn.out] at r3
        rcases r3 x hx with e | e
        · exact hnw.out x e
        · exact .inr (Nat.le_trans hzw e)
      replace hpr := Lib.hid hpr
      replace hq := Lib.hid hq
      replace hx := Lib.hid hx
      replace hW := Lib.hid hW
      clear hb0
      by_cases hkl : k < nl
      · obtain ⟨b1, off1, x, rfl, hb1, hx1, y1⟩ := (hs.below hBw).surv hkl
        have hkp : Hid ((ks.map Surv.keep).getD k [] = x.keep) := by unfold Hid; rw [List.getD_eq_getElem?_getD, List.getElem?_map, hx1]; rfl
        have hkx := hk.out x (List.mem_of_getElem? hx1)
        have hci := ref07_Crash pr (f' k) N s hso x.A x.n x.c x.keep wp hst ((hkx.below hBw).more hBz) (fun h0 b' off e hi => by
          have := hfB b' hi
          obtain ⟨b2, o2, e2, hb2, _⟩ := hkx.2.2 h0
          rw [e] at e2
          cases e2
          omega)
        replace hx1 := Lib.hid hx1
        replace hkx := Lib.hid hkx
        clear hst
        go_wp2_with fail
        refine hci.mono ?_
        rintro e w1 ⟨rfl, hto⟩
        obtain ⟨f2, r1, r2, r3⟩ := hstep.out x.keep w1 hkp.out hto
        clear hstep hci hto
        go_wp2_with fail
        go_roundw
        case rel => exact ⟨k + 1, f2, by omega, by go_num, r1, r2, r3⟩
        case measure => simp [intOf]; omega
      · have hkp : Hid ((ks.map Surv.keep).getD k [] = []) := by
          unfold Hid
          rw [List.getD_eq_getElem?_getD, List.getElem?_eq_none (by rw [List.length_map]; have := hnl.out; omega)]
          rfl
        have hci := ref07_Crash pr (f' k) N s hso none 0 0 [] wp hst (IntsAt.none_ _) (fun h0 => absurd h0 (by omega))
        clear hst
        go_wp2_with fail
        refine hci.mono ?_
        rintro e w1 ⟨rfl, hto⟩
        obtain ⟨f2, r1, r2, r3⟩ := hstep.out [] w1 hkp.out hto
        clear hstep hci hto
        go_wp2_with fail
        go_roundw
        case rel => exact ⟨k + 1, f2, by omega, by go_num, r1, r2, r3⟩
        case measure => simp [intOf]; omega
    · obtain rfl : k = n := by omega
      have g3 := hW.box.frozen 3
      have g4 := hW.box.frozen 4
      obtain ⟨_, _, _, y3, y4⟩ := hW.box.cells
      have hfi : Hid (RWTo b X (m.crash (ks.map Surv.keep)) w ((wp.setCell ⟨b, 3, none⟩ (.int .i64 (-1))).setCell ⟨b, 4, none⟩ (.bool false))) := by
        have e1 := RWIn.set (m' := { m.crashTo (ks.map Surv.keep) k with left := -1 }) hW (o := 3) (u := .int .i64 (-1)) (hW.box.set3 _) rfl hW.calls (by dsimp only; omega) (by dsimp only; omega)
        have e2 := RWIn.set (m' := { m.crashTo (ks.map Surv.keep) k with left := -1, dark := false }) e1 (o := 4) (u := .bool false) ((hW.box.set3 _).set4 _) rfl hW.calls (by dsimp only; omega) (by dsimp only; omega)
        have hcr : m.crash (ks.map Surv.keep) = { m.crashTo (ks.map Surv.keep) k with left := -1, dark := false } := by unfold Wld.crash; rw [← hn.out]
        rw [hcr]
        refine ⟨_, ⟨_, U, l, f', rfl, e2⟩, (hbr.trans (But.of_set (F := [b]) _ (by simp)) (by intro i hi; simp at hi; subst hi; exact .inl hbX)).trans (But.of_set (F := [b]) _ (by simp)) (by intro i hi; simp at hi; subst hi; exact .inl hbX), fun x hx => ?_⟩
        rw [show ({ m.crashTo (ks.map Surv.keep) k with left := -1, dark := false } : Wld).stores.length = k from hnn.out k] at hx
        exact hnw.out x hx
      replace hW := Lib.hid hW
      clear hnn
      go_wp2_with fail
      go_end0
      exact ⟨rfl, hfin.out _ hfi.out⟩
end Go.Proofs.YtfkonpmnclknaaaGreat
