/-
  Calls of the reference's world: Put, Get, Del, List, Sync, Cut.
-/
import Derived.Test.YtfkonpmnclknaaaGreatRwlA
namespace Go.Proofs.YtfkonpmnclknaaaGreat
open Go.RowKit
attribute [local go_sem ↓] Go.wp_at_zero Go.wp_at_succ

def RAns (b : Nat) (X : List Nat) (m : Wld) (i : Int) (w : World) (e : Ending) (w' : World) : Prop :=
  (m.has i = false ∧ e = .returned (.int .i64 1) ∧ w' = w) ∨ (m.has i = true ∧ m.tick.dark = true ∧ e = .returned (.int .i64 56) ∧ RWTo b X m.tick w w') ∨ (m.has i = true ∧ m.tick.dark = false ∧ e = .returned (.int .i64 0) ∧ RWTo b X m.tick w w')

set_option maxHeartbeats 4000000 in
set_option maxRecDepth 100000 in
theorem ref08_call (b : Nat) (X : List Nat) (m : Wld) (i : Int) (w : World) (h : RWAt w b X m) (hm9 : m.calls + 1 ≤ 1000000) :
    Calls Tryz.prog 65 #[.pointer (some ⟨b, 0, none⟩), .int .i64 i] w (RAns b X m i w) := by
  obtain ⟨V, U, l, f, rfl, h⟩ := h
  obtain ⟨A, n, c, rfl⟩ : ∃ A m c, V = .slice A m c := by obtain ⟨A, c, e⟩ := Owns.form h.own; exact ⟨A, _, c, e⟩
  have hn : n = m.stores.length := by rw [← h.len]; exact (Owns.row (k := 1) (fun x => ptE.len x) h.own).1.symm
  have hf9 := h.few
  have hc9 := h.calls
  have hlo := h.lo
  have hhi := h.hi
  have f2 := h.box.frozen 2
  have f3 := h.box.frozen 3
  have f4 := h.box.frozen 4
  obtain ⟨c0, c1, c2, c3, c4⟩ := h.box.cells
  cases hh : m.has i with
  | false =>
    have hbad : i < 0 ∨ (n : Int) ≤ i := by
      unfold Wld.has at hh
      rw [hn]
      simp only [Bool.and_eq_false_iff, decide_eq_false_iff_not] at hh
      omega
    replace hn := Lib.hid hn
    replace h := Lib.hid h
    rcases hbad with hi | hi
    · go_enter Tryz.func65, Tryz.ntmps65
      go_wp2_with fail
      go_ret
      exact .inl ⟨hh, rfl, rfl⟩
    · by_cases hi0 : i < 0
      · go_enter Tryz.func65, Tryz.ntmps65
        go_wp2_with fail
        go_ret
        exact .inl ⟨hh, rfl, rfl⟩
      · go_enter Tryz.func65, Tryz.ntmps65
        go_wp2_with fail
        go_ret
        exact .inl ⟨hh, rfl, rfl⟩
  | true =>
    obtain ⟨k, rfl, hk, hkt⟩ := has_at hh
    have hkn : ¬ (n : Int) ≤ (k : Int) := by omega
    have hk0 : ¬ (k : Int) < 0 := by omega
    by_cases hd : m.dark = true ∨ m.left = 0
    · have ht : Hid (m.tick.dark = true) := by unfold Hid Wld.tick; simpa using hd
      by_cases hl : m.left = 0
      · have hb := (h.box.set2 (.int .i64 (m.calls + 1))).set4 (.bool true)
        obtain ⟨d0, d1, d2, d3, d4⟩ := hb.cells
        obtain ⟨x0, x1, x2, x3, x4⟩ := (h.box.set2 (.int .i64 (m.calls + 1))).cells
        have hfin : Hid (RWTo b (rBlocks b (.slice A n c) U f m.stores.length) m.tick w ((w.setCell ⟨b, 2, none⟩ (.int .i64 (m.calls + 1))).setCell ⟨b, 4, none⟩ (.bool true))) := by
          have e1 := RWIn.set (m' := { m with calls := m.calls + 1 }) h (h.box.set2 (.int .i64 (m.calls + 1))) rfl hm9 hlo hhi
          have e2 := RWIn.set (m' := m.tick) e1 (o := 4) (u := .bool true) (by rw [ht.out]; unfold Wld.tick; rw [if_pos hd]; exact hb) rfl (by unfold Wld.tick; exact hm9) (by unfold Wld.tick; dsimp only; rw [if_pos hd]; exact hlo) (by unfold Wld.tick; dsimp only; rw [if_pos hd]; exact hhi)
          exact ⟨_, ⟨_, U, l, f, rfl, e2⟩, (But.of_set _ (mem_rBlocks.2 (.inl rfl))).trans (But.of_set (F := [b]) _ (by simp)) (by intro i hi; simp at hi; subst hi; exact .inl (mem_rBlocks.2 (.inl rfl))), fun i hi => .inl hi⟩
        rw [hl] at c3 x3
        replace h := Lib.hid h
        replace hb := Lib.hid hb
        replace hn := Lib.hid hn
        replace hl := Lib.hid hl
        replace hd := Lib.hid hd
        go_enter Tryz.func65, Tryz.ntmps65
        go_wp2_with fail
        go_ret
        exact .inr (.inl ⟨hh, ht.out, rfl, hfin.out⟩)
      · have hdk : m.dark = true := by rcases hd with hd | hd; exact hd; exact absurd hd hl
        have hb := h.box.set2 (.int .i64 (m.calls + 1))
        obtain ⟨d0, d1, d2, d3, d4⟩ := hb.cells
        have hfin : Hid (RWTo b (rBlocks b (.slice A n c) U f m.stores.length) m.tick w (w.setCell ⟨b, 2, none⟩ (.int .i64 (m.calls + 1)))) := by
          have e2 := RWIn.set (m' := m.tick) h (o := 2) (u := .int .i64 (m.calls + 1)) (by rw [ht.out]; unfold Wld.tick; rw [if_pos hd]; rw [hdk] at hb; exact hb) rfl (by unfold Wld.tick; exact hm9) (by unfold Wld.tick; dsimp only; rw [if_pos hd]; exact hlo) (by unfold Wld.tick; dsimp only; rw [if_pos hd]; exact hhi)
          exact ⟨_, ⟨_, U, l, f, rfl, e2⟩, But.of_set _ (mem_rBlocks.2 (.inl rfl)), fun i hi => .inl hi⟩
        have hl1 : (m.left == 0) = false := by simpa using hl
        rw [hdk] at d4 c4
        replace h := Lib.hid h
        replace hb := Lib.hid hb
        replace hn := Lib.hid hn
        replace hl := Lib.hid hl
        replace hd := Lib.hid hd
        replace hdk := Lib.hid hdk
        go_enter Tryz.func65, Tryz.ntmps65
        go_wp2_with fail
        go_ret
        exact .inr (.inl ⟨hh, ht.out, rfl, hfin.out⟩)
    · obtain ⟨hdk, hl0⟩ : m.dark = false ∧ m.left ≠ 0 := by simpa using hd
      have ht : Hid (m.tick.dark = false) := by unfold Hid Wld.tick; simp [hdk, hl0]
      have hl1 : (m.left == 0) = false := by simpa using hl0
      by_cases hp : 0 < m.left
      · have hb := (h.box.set2 (.int .i64 (m.calls + 1))).set3 (.int .i64 (m.left - 1))
        obtain ⟨d0, d1, d2, d3, d4⟩ := (h.box.set2 (.int .i64 (m.calls + 1))).cells
        have hfin : Hid (RWTo b (rBlocks b (.slice A n c) U f m.stores.length) m.tick w ((w.setCell ⟨b, 2, none⟩ (.int .i64 (m.calls + 1))).setCell ⟨b, 3, none⟩ (.int .i64 (m.left - 1)))) := by
          have e1 := RWIn.set (m' := { m with calls := m.calls + 1 }) h (h.box.set2 (.int .i64 (m.calls + 1))) rfl hm9 hlo hhi
          have e2 := RWIn.set (m' := m.tick) e1 (o := 3) (u := .int .i64 (m.left - 1)) (by rw [ht.out]; unfold Wld.tick; rw [if_neg hd, if_pos hp]; rw [hdk] at hb; exact hb) rfl (by unfold Wld.tick; exact hm9) (by unfold Wld.tick; dsimp only; rw [if_neg hd, if_pos hp]; omega) (by unfold Wld.tick; dsimp only; rw [if_neg hd, if_pos hp]; omega)
          exact ⟨_, ⟨_, U, l, f, rfl, e2⟩, (But.of_set _ (mem_rBlocks.2 (.inl rfl))).trans (But.of_set (F := [b]) _ (by simp)) (by intro i hi; simp at hi; subst hi; exact .inl (mem_rBlocks.2 (.inl rfl))), fun i hi => .inl hi⟩
        rw [hdk] at d4 c4
        replace h := Lib.hid h
        replace hb := Lib.hid hb
        replace hn := Lib.hid hn
        replace hl0 := Lib.hid hl0
        replace hd := Lib.hid hd
        replace hdk := Lib.hid hdk
        go_enter Tryz.func65, Tryz.ntmps65
        go_wp2_with fail
        go_ret
        exact .inr (.inr ⟨hh, ht.out, rfl, hfin.out⟩)
      · have hb := h.box.set2 (.int .i64 (m.calls + 1))
        obtain ⟨d0, d1, d2, d3, d4⟩ := hb.cells
        have hfin : Hid (RWTo b (rBlocks b (.slice A n c) U f m.stores.length) m.tick w (w.setCell ⟨b, 2, none⟩ (.int .i64 (m.calls + 1)))) := by
          have e2 := RWIn.set (m' := m.tick) h (o := 2) (u := .int .i64 (m.calls + 1)) (by rw [ht.out]; unfold Wld.tick; rw [if_neg hd, if_neg hp]; rw [hdk] at hb; exact hb) rfl (by unfold Wld.tick; exact hm9) (by unfold Wld.tick; dsimp only; rw [if_neg hd, if_neg hp]; exact hlo) (by unfold Wld.tick; dsimp only; rw [if_neg hd, if_neg hp]; exact hhi)
          exact ⟨_, ⟨_, U, l, f, rfl, e2⟩, But.of_set _ (mem_rBlocks.2 (.inl rfl)), fun i hi => .inl hi⟩
        have hlm : m.left < 0 := by omega
        rw [hdk] at d4 c4
        replace h := Lib.hid h
        replace hb := Lib.hid hb
        replace hn := Lib.hid hn
        replace hl0 := Lib.hid hl0
        replace hd := Lib.hid hd
        replace hdk := Lib.hid hdk
        go_enter Tryz.func65, Tryz.ntmps65
        go_wp2_with fail
        go_ret
        exact .inr (.inr ⟨hh, ht.out, rfl, hfin.out⟩)
end Go.Proofs.YtfkonpmnclknaaaGreat
/-
  Put, Get, Del, List, Sync, Cut of the reference's world.
-/
namespace Go.Proofs.YtfkonpmnclknaaaGreat
open Go.RowKit
attribute [local go_sem ↓] Go.wp_at_zero Go.wp_at_succ

set_option maxHeartbeats 4000000 in
set_option maxRecDepth 100000 in
theorem ref08_Sync (b N : Nat) (X : List Nat) (m : Wld) (i : Int) (w : World) (h : RWAt w b X m) (hok : ∀ p ∈ m.stores, StoOk N p.1) (hc : m.calls + 1 ≤ 1000000) :
    Calls Tryz.prog 42 #[.pointer (some ⟨b, 0, none⟩), .int .i64 i] w fun e w' => e = .returned (.int .i64 (m.err i fun s => s.sync.2)) ∧ RWTo b X (m.go i fun s => s.sync.1) w w' := by
  replace hok := Lib.hid hok
  have hC := ref08_call b X m i w h hc
  have hsame := Lib.hid (RWTo.same h (Below.refl _ _))
  clear h
  go_enter Tryz.func42, Tryz.ntmps42
  go_wp2_with fail
  refine hC.mono ?_
  rintro e w1 hans
  rcases hans with ⟨hh, rfl, rfl⟩ | ⟨hh, hd, rfl, hto⟩ | ⟨hh, hd, rfl, hto⟩
  · have e1 : Hid (m.err i (fun s => s.sync.2) = 1) := by unfold Hid Wld.err; rw [ans_no hh]; rfl
    have e2 : Hid (m.go i (fun s => s.sync.1) = m) := go_no hh
    replace hh := Lib.hid hh
    go_wp2_with fail
    go_ret
    exact ⟨by rw [e1.out]; rfl, by rw [e2.out]; exact hsame.out⟩
  · have e1 : Hid (m.err i (fun s => s.sync.2) = 56) := by unfold Hid Wld.err; rw [ans_dark hh hd]; rfl
    have e2 : Hid (m.go i (fun s => s.sync.1) = m.tick) := go_dark hh hd
    replace hh := Lib.hid hh
    replace hd := Lib.hid hd
    replace hto := Lib.hid hto
    go_wp2_with fail
    go_ret
    exact ⟨by rw [e1.out]; rfl, by rw [e2.out]; exact hto.out⟩
  · obtain ⟨X1, h1, hb1, hn1⟩ := hto
    (have hX1 := h1
     obtain ⟨V, U, l, f, rfl, hW⟩ := h1
     obtain ⟨k, rfl, hk, hkt⟩ := has_at hh
     have hk' : k < m.tick.stores.length := hk
     obtain ⟨g, c, rfl⟩ := hW.rowForm (by omega)
     obtain ⟨s, u, q, hx, hq, hst⟩ := hW.at_ (i := k) hk'
     obtain ⟨b0, off, pr, e0, hb0, hpr, o0⟩ := (Owns.row (k := 1) (fun x => ptE.len x) hW.own).pt (i := k) hk'
     simp only [Option.some.injEq, Addr.mk.injEq, and_true] at e0
     obtain ⟨rfl, rfl⟩ := e0
     obtain rfl : pr = q := by rw [hq] at hpr; exact (Option.some.inj hpr).symm
     simp only [Nat.zero_add] at o0
     obtain ⟨y0, _, _, _, _⟩ := hW.box.cells
     have hso := hok.out _ (List.mem_of_getElem? hx)
     have hxm : m.stores[(k : Int).toNat]? = some (s, u) := hx
     have hcall := Lib.hid fun s' w' (hto : RefTo pr (f k) s' w1 w') => show RWTo b (rBlocks b (.slice (some ⟨g, 0, none⟩) m.tick.stores.length c) U f m.tick.stores.length) (m.tick.put k s') w1 w' by
       obtain ⟨f2, r1, r2, r3⟩ := hW.call hx hq hto
       refine ⟨_, ⟨_, U, l, f2, rfl, r1⟩, r2.more (fun x hx => mem_rBlocks.2 (.inr (.inr (.inr ⟨k, hk', hx⟩)))), fun x hx => ?_⟩
       rw [show (m.tick.put k s').stores.length = m.tick.stores.length from by simp [Wld.put]] at hx
       exact r3 x hx
     obtain ⟨n, hn⟩ : ∃ n, n = m.tick.stores.length := ⟨_, rfl⟩
     have hkn : k < n := by omega
     rw [← hn] at y0
     replace hn := Lib.hid hn
     replace hW := Lib.hid hW
     replace hX1 := Lib.hid hX1
     replace hpr := Lib.hid hpr
     replace hq := Lib.hid hq
     replace hx := Lib.hid hx
     replace hxm := Lib.hid hxm
     clear hb0)
    have e1 : Hid (m.err k (fun s => s.sync.2) = s.sync.2) := by unfold Hid Wld.err; exact ans_on hh hd hxm.out
    have e2 : Hid (m.go k (fun s => s.sync.1) = m.tick.put k (s.sync.1)) := by unfold Hid; rw [go_on hh hd hxm.out, hkt]
    replace hh := Lib.hid hh
    replace hd := Lib.hid hd
    clear hkt
    go_wp2_with fail
    refine (ref07_Sync pr (f k) N s hso w1 hst).mono ?_
    rintro e w2 ⟨rfl, hto⟩
    have hfin : Hid (RWTo b X (m.tick.put k (s.sync.1)) w w2) := by
      obtain ⟨X2, k1, k2, k3⟩ := hcall.out _ _ hto
      refine ⟨X2, k1, hb1.trans k2 hn1, fun x hx => ?_⟩
      rcases k3 x hx with e | e
      · exact hn1 x e
      · exact .inr (Nat.le_trans hb1.size e)
    clear hto hcall
    go_wp2_with fail
    go_ret
    exact ⟨by rw [e1.out]; rfl, by rw [e2.out]; exact hfin.out⟩

set_option maxHeartbeats 4000000 in
set_option maxRecDepth 100000 in
theorem ref08_Del (b N : Nat) (X : List Nat) (m : Wld) (i : Int) (nm : ByteArray) (w : World) (h : RWAt w b X m) (hok : ∀ p ∈ m.stores, StoOk N p.1) (hc : m.calls + 1 ≤ 1000000) :
    Calls Tryz.prog 38 #[.pointer (some ⟨b, 0, none⟩), .int .i64 i, .string nm] w fun e w' => e = .returned (.int .i64 (m.err i fun s => (s.del nm).2)) ∧ RWTo b X (m.go i fun s => (s.del nm).1) w w' := by
  replace hok := Lib.hid hok
  have hC := ref08_call b X m i w h hc
  have hsame := Lib.hid (RWTo.same h (Below.refl _ _))
  clear h
  go_enter Tryz.func38, Tryz.ntmps38
  go_wp2_with fail
  refine hC.mono ?_
  rintro e w1 hans
  rcases hans with ⟨hh, rfl, rfl⟩ | ⟨hh, hd, rfl, hto⟩ | ⟨hh, hd, rfl, hto⟩
  · have e1 : Hid (m.err i (fun s => (s.del nm).2) = 1) := by unfold Hid Wld.err; rw [ans_no hh]; rfl
    have e2 : Hid (m.go i (fun s => (s.del nm).1) = m) := go_no hh
    replace hh := Lib.hid hh
    go_wp2_with fail
    go_ret
    exact ⟨by rw [e1.out]; rfl, by rw [e2.out]; exact hsame.out⟩
  · have e1 : Hid (m.err i (fun s => (s.del nm).2) = 56) := by unfold Hid Wld.err; rw [ans_dark hh hd]; rfl
    have e2 : Hid (m.go i (fun s => (s.del nm).1) = m.tick) := go_dark hh hd
    replace hh := Lib.hid hh
    replace hd := Lib.hid hd
    replace hto := Lib.hid hto
    go_wp2_with fail
    go_ret
    exact ⟨by rw [e1.out]; rfl, by rw [e2.out]; exact hto.out⟩
  · obtain ⟨X1, h1, hb1, hn1⟩ := hto
    (have hX1 := h1
     obtain ⟨V, U, l, f, rfl, hW⟩ := h1
     obtain ⟨k, rfl, hk, hkt⟩ := has_at hh
     have hk' : k < m.tick.stores.length := hk
     obtain ⟨g, c, rfl⟩ := hW.rowForm (by omega)
     obtain ⟨s, u, q, hx, hq, hst⟩ := hW.at_ (i := k) hk'
     obtain ⟨b0, off, pr, e0, hb0, hpr, o0⟩ := (Owns.row (k := 1) (fun x => ptE.len x) hW.own).pt (i := k) hk'
     simp only [Option.some.injEq, Addr.mk.injEq, and_true] at e0
     obtain ⟨rfl, rfl⟩ := e0
     obtain rfl : pr = q := by rw [hq] at hpr; exact (Option.some.inj hpr).symm
     simp only [Nat.zero_add] at o0
     obtain ⟨y0, _, _, _, _⟩ := hW.box.cells
     have hso := hok.out _ (List.mem_of_getElem? hx)
     have hxm : m.stores[(k : Int).toNat]? = some (s, u) := hx
     have hcall := Lib.hid fun s' w' (hto : RefTo pr (f k) s' w1 w') => show RWTo b (rBlocks b (.slice (some ⟨g, 0, none⟩) m.tick.stores.length c) U f m.tick.stores.length) (m.tick.put k s') w1 w' by
       obtain ⟨f2, r1, r2, r3⟩ := hW.call hx hq hto
       refine ⟨_, ⟨_, U, l, f2, rfl, r1⟩, r2.more (fun x hx => mem_rBlocks.2 (.inr (.inr (.inr ⟨k, hk', hx⟩)))), fun x hx => ?_⟩
       rw [show (m.tick.put k s').stores.length = m.tick.stores.length from by simp [Wld.put]] at hx
       exact r3 x hx
     obtain ⟨n, hn⟩ : ∃ n, n = m.tick.stores.length := ⟨_, rfl⟩
     have hkn : k < n := by omega
     rw [← hn] at y0
     replace hn := Lib.hid hn
     replace hW := Lib.hid hW
     replace hX1 := Lib.hid hX1
     replace hpr := Lib.hid hpr
     replace hq := Lib.hid hq
     replace hx := Lib.hid hx
     replace hxm := Lib.hid hxm
     clear hb0)
    have e1 : Hid (m.err k (fun s => (s.del nm).2) = (s.del nm).2) := by unfold Hid Wld.err; exact ans_on hh hd hxm.out
    have e2 : Hid (m.go k (fun s => (s.del nm).1) = m.tick.put k ((s.del nm).1)) := by unfold Hid; rw [go_on hh hd hxm.out, hkt]
    replace hh := Lib.hid hh
    replace hd := Lib.hid hd
    clear hkt
    go_wp2_with fail
    refine (ref07_Del pr (f k) N s hso nm w1 hst).mono ?_
    rintro e w2 ⟨rfl, hto⟩
    have hfin : Hid (RWTo b X (m.tick.put k ((s.del nm).1)) w w2) := by
      obtain ⟨X2, k1, k2, k3⟩ := hcall.out _ _ hto
      refine ⟨X2, k1, hb1.trans k2 hn1, fun x hx => ?_⟩
      rcases k3 x hx with e | e
      · exact hn1 x e
      · exact .inr (Nat.le_trans hb1.size e)
    clear hto hcall
    go_wp2_with fail
    go_ret
    exact ⟨by rw [e1.out]; rfl, by rw [e2.out]; exact hfin.out⟩

set_option maxHeartbeats 4000000 in
set_option maxRecDepth 100000 in
theorem ref08_Get (b N : Nat) (X : List Nat) (m : Wld) (i : Int) (nm : ByteArray) (w : World) (h : RWAt w b X m) (hok : ∀ p ∈ m.stores, StoOk N p.1) (hc : m.calls + 1 ≤ 1000000) :
    Calls Tryz.prog 36 #[.pointer (some ⟨b, 0, none⟩), .int .i64 i, .string nm] w fun e w' => e = .returned (.tuple #[.string (m.get i nm).1, .int .i64 (m.get i nm).2]) ∧ RWTo b X (m.go i id) w w' := by
  replace hok := Lib.hid hok
  have hC := ref08_call b X m i w h hc
  have hsame := Lib.hid (RWTo.same h (Below.refl _ _))
  clear h
  go_enter Tryz.func36, Tryz.ntmps36
  go_wp2_with fail
  refine hC.mono ?_
  rintro e w1 hans
  rcases hans with ⟨hh, rfl, rfl⟩ | ⟨hh, hd, rfl, hto⟩ | ⟨hh, hd, rfl, hto⟩
  · have e1 : Hid (m.get i nm = (⟨#[]⟩, 1)) := by unfold Hid Wld.get; rw [ans_no hh]
    have e2 : Hid (m.go i id = m) := go_no hh
    replace hh := Lib.hid hh
    go_wp2_with fail
    go_ret2
    exact ⟨by rw [e1.out]; rfl, by rw [e2.out]; exact hsame.out⟩
  · have e1 : Hid (m.get i nm = (⟨#[]⟩, 56)) := by unfold Hid Wld.get; rw [ans_dark hh hd]
    have e2 : Hid (m.go i id = m.tick) := go_dark hh hd
    replace hh := Lib.hid hh
    replace hd := Lib.hid hd
    replace hto := Lib.hid hto
    go_wp2_with fail
    go_ret2
    exact ⟨by rw [e1.out]; rfl, by rw [e2.out]; exact hto.out⟩
  · obtain ⟨X1, h1, hb1, hn1⟩ := hto
    (have hX1 := h1
     obtain ⟨V, U, l, f, rfl, hW⟩ := h1
     obtain ⟨k, rfl, hk, hkt⟩ := has_at hh
     have hk' : k < m.tick.stores.length := hk
     obtain ⟨g, c, rfl⟩ := hW.rowForm (by omega)
     obtain ⟨s, u, q, hx, hq, hst⟩ := hW.at_ (i := k) hk'
     obtain ⟨b0, off, pr, e0, hb0, hpr, o0⟩ := (Owns.row (k := 1) (fun x => ptE.len x) hW.own).pt (i := k) hk'
     simp only [Option.some.injEq, Addr.mk.injEq, and_true] at e0
     obtain ⟨rfl, rfl⟩ := e0
     obtain rfl : pr = q := by rw [hq] at hpr; exact (Option.some.inj hpr).symm
     simp only [Nat.zero_add] at o0
     obtain ⟨y0, _, _, _, _⟩ := hW.box.cells
     have hso := hok.out _ (List.mem_of_getElem? hx)
     have hxm : m.stores[(k : Int).toNat]? = some (s, u) := hx
     have hcall := Lib.hid fun s' w' (hto : RefTo pr (f k) s' w1 w') => show RWTo b (rBlocks b (.slice (some ⟨g, 0, none⟩) m.tick.stores.length c) U f m.tick.stores.length) (m.tick.put k s') w1 w' by
       obtain ⟨f2, r1, r2, r3⟩ := hW.call hx hq hto
       refine ⟨_, ⟨_, U, l, f2, rfl, r1⟩, r2.more (fun x hx => mem_rBlocks.2 (.inr (.inr (.inr ⟨k, hk', hx⟩)))), fun x hx => ?_⟩
       rw [show (m.tick.put k s').stores.length = m.tick.stores.length from by simp [Wld.put]] at hx
       exact r3 x hx
     obtain ⟨n, hn⟩ : ∃ n, n = m.tick.stores.length := ⟨_, rfl⟩
     have hkn : k < n := by omega
     rw [← hn] at y0
     replace hn := Lib.hid hn
     replace hW := Lib.hid hW
     replace hX1 := Lib.hid hX1
     replace hpr := Lib.hid hpr
     replace hq := Lib.hid hq
     replace hx := Lib.hid hx
     replace hxm := Lib.hid hxm
     clear hb0)
    have e1 : Hid (m.get k nm = s.get nm) := by unfold Hid Wld.get; exact ans_on hh hd hxm.out
    have e2 : Hid (m.go k id = m.tick.put k s) := by unfold Hid; rw [go_on hh hd hxm.out, hkt]; rfl
    replace hh := Lib.hid hh
    replace hd := Lib.hid hd
    clear hkt
    go_wp2_with fail
    refine (ref07_Get pr (f k) N s hso nm w1 hst).mono ?_
    rintro e w2 ⟨rfl, hbb⟩
    have hto := RefTo.same hst hbb
    have hfin : Hid (RWTo b X (m.tick.put k (s)) w w2) := by
      obtain ⟨X2, k1, k2, k3⟩ := hcall.out _ _ hto
      refine ⟨X2, k1, hb1.trans k2 hn1, fun x hx => ?_⟩
      rcases k3 x hx with e | e
      · exact hn1 x e
      · exact .inr (Nat.le_trans hb1.size e)
    clear hto hcall
    go_wp2_with fail
    go_ret2
    exact ⟨by rw [e1.out]; rfl, by rw [e2.out]; exact hfin.out⟩

set_option maxHeartbeats 4000000 in
set_option maxRecDepth 100000 in
theorem ref08_List (b N : Nat) (X : List Nat) (m : Wld) (i : Int) (w : World) (h : RWAt w b X m) (hok : ∀ p ∈ m.stores, StoOk N p.1) (hc : m.calls + 1 ≤ 1000000) :
    Calls Tryz.prog 40 #[.pointer (some ⟨b, 0, none⟩), .int .i64 i] w fun e w' => ∃ v W, e = .returned (.tuple #[v, .int .i64 (m.list i).2]) ∧ RWTo b X (m.go i id) w W ∧ strE.Own w' W.heap.size v (m.list i).1 ∧ Below W.heap.size W w' := by
  replace hok := Lib.hid hok
  have hC := ref08_call b X m i w h hc
  have hsame := Lib.hid (RWTo.same h (Below.refl _ _))
  clear h
  go_enter Tryz.func40, Tryz.ntmps40
  go_wp2_with fail
  refine hC.mono ?_
  rintro e w1 hans
  rcases hans with ⟨hh, rfl, rfl⟩ | ⟨hh, hd, rfl, hto⟩ | ⟨hh, hd, rfl, hto⟩
  · have e1 : Hid (m.list i = ([], 1)) := by unfold Hid Wld.list; rw [ans_no hh]
    have e2 : Hid (m.go i id = m) := go_no hh
    replace hh := Lib.hid hh
    go_wp2_with fail
    go_ret2
    exact ⟨.slice none 0 0, _, by rw [e1.out]; rfl, by rw [e2.out]; exact hsame.out, by rw [e1.out]; exact Owns.nil_, Below.refl _ _⟩
  · have e1 : Hid (m.list i = ([], 56)) := by unfold Hid Wld.list; rw [ans_dark hh hd]
    have e2 : Hid (m.go i id = m.tick) := go_dark hh hd
    replace hh := Lib.hid hh
    replace hd := Lib.hid hd
    replace hto := Lib.hid hto
    go_wp2_with fail
    go_ret2
    exact ⟨.slice none 0 0, _, by rw [e1.out]; rfl, by rw [e2.out]; exact hto.out, by rw [e1.out]; exact Owns.nil_, Below.refl _ _⟩
  · obtain ⟨X1, h1, hb1, hn1⟩ := hto
    (have hX1 := h1
     obtain ⟨V, U, l, f, rfl, hW⟩ := h1
     obtain ⟨k, rfl, hk, hkt⟩ := has_at hh
     have hk' : k < m.tick.stores.length := hk
     obtain ⟨g, c, rfl⟩ := hW.rowForm (by omega)
     obtain ⟨s, u, q, hx, hq, hst⟩ := hW.at_ (i := k) hk'
     obtain ⟨b0, off, pr, e0, hb0, hpr, o0⟩ := (Owns.row (k := 1) (fun x => ptE.len x) hW.own).pt (i := k) hk'
     simp only [Option.some.injEq, Addr.mk.injEq, and_true] at e0
     obtain ⟨rfl, rfl⟩ := e0
     obtain rfl : pr = q := by rw [hq] at hpr; exact (Option.some.inj hpr).symm
     simp only [Nat.zero_add] at o0
     obtain ⟨y0, _, _, _, _⟩ := hW.box.cells
     have hso := hok.out _ (List.mem_of_getElem? hx)
     have hxm : m.stores[(k : Int).toNat]? = some (s, u) := hx
     have hcall := Lib.hid fun s' w' (hto : RefTo pr (f k) s' w1 w') => show RWTo b (rBlocks b (.slice (some ⟨g, 0, none⟩) m.tick.stores.length c) U f m.tick.stores.length) (m.tick.put k s') w1 w' by
       obtain ⟨f2, r1, r2, r3⟩ := hW.call hx hq hto
       refine ⟨_, ⟨_, U, l, f2, rfl, r1⟩, r2.more (fun x hx => mem_rBlocks.2 (.inr (.inr (.inr ⟨k, hk', hx⟩)))), fun x hx => ?_⟩
       rw [show (m.tick.put k s').stores.length = m.tick.stores.length from by simp [Wld.put]] at hx
       exact r3 x hx
     obtain ⟨n, hn⟩ : ∃ n, n = m.tick.stores.length := ⟨_, rfl⟩
     have hkn : k < n := by omega
     rw [← hn] at y0
     replace hn := Lib.hid hn
     replace hW := Lib.hid hW
     replace hX1 := Lib.hid hX1
     replace hpr := Lib.hid hpr
     replace hq := Lib.hid hq
     replace hx := Lib.hid hx
     replace hxm := Lib.hid hxm
     clear hb0)
    have e1 : Hid (m.list k = s.list) := by unfold Hid Wld.list; exact ans_on hh hd hxm.out
    have e2 : Hid (m.go k id = m.tick.put k s) := by unfold Hid; rw [go_on hh hd hxm.out, hkt]; rfl
    replace hh := Lib.hid hh
    replace hd := Lib.hid hd
    clear hkt
    go_wp2_with fail
    refine (ref07_List pr (f k) N s hso w1 hst).mono ?_
    rintro e w2 ⟨v, rfl, ho, hbb⟩
    have hfin : Hid (RWTo b X (m.go k id) w w1) := by
      unfold Hid
      rw [e2.out, show m.tick.put k s = m.tick from put_same hxm.out]
      exact ⟨_, hX1.out, hb1, hn1⟩
    clear hcall
    obtain ⟨A9, m9, c9, rfl⟩ : ∃ A m c, v = .slice A m c := by obtain ⟨A, c, e⟩ := Owns.form ho; exact ⟨A, _, c, e⟩
    replace ho := Lib.hid ho
    go_wp2_with fail
    go_ret2
    exact ⟨.slice A9 m9 c9, w1, by rw [e1.out]; rfl, hfin.out, by rw [e1.out]; exact ho.out, hbb⟩

set_option maxHeartbeats 4000000 in
set_option maxRecDepth 100000 in
theorem ref08_Put (b N : Nat) (X : List Nat) (m : Wld) (i : Int) (o : Ob) (w : World) (h : RWAt w b X m) (hok : ∀ p ∈ m.stores, StoOk N p.1) (hc : m.calls + 1 ≤ 1000000) :
    Calls Tryz.prog 35 #[.pointer (some ⟨b, 0, none⟩), .int .i64 i, .agg #[.string o.1, .string o.2]] w fun e w' => e = .returned (.int .i64 (m.err i fun s => (s.put o).2)) ∧ RWTo b X (m.go i fun s => (s.put o).1) w w' := by
  replace hok := Lib.hid hok
  obtain ⟨nm, d⟩ := o
  dsimp only
  have hA : Below w.heap.size w (w.alloc (.cells #[.string nm, .string d] 24)) := (Below.refl _ w).alloc (Nat.le_refl _) _
  have hwX : w.heap.size ∉ X := fun hi => by have := h.lt _ hi; omega
  have hsame := Lib.hid (RWTo.same h hA)
  have hC := ref08_call b X m i _ (h.below hA) hc
  have x0 := newCell w #[.string nm, .string d] 24 (0, 0) 0
  have x1 := newCell w #[.string nm, .string d] 24 (0, 0) 1
  have hz0 : (w.alloc (.cells #[.string nm, .string d] 24)).heap.size = w.heap.size + 1 := by simp
  clear h
  go_enter Tryz.func35, Tryz.ntmps35
  go_upto_region 1 with fail
  generalize (w.alloc (.cells #[.string nm, .string d] 24)) = w0 at hA hsame hC x0 x1 hz0 ⊢
  simp at x0 x1
  go_wp2_with fail
  refine hC.mono ?_
  rintro e w1 hans
  rcases hans with ⟨hh, rfl, rfl⟩ | ⟨hh, hd, rfl, hto⟩ | ⟨hh, hd, rfl, hto⟩
  · have e1 : Hid (m.err i (fun s => (s.put (nm, d)).2) = 1) := by unfold Hid Wld.err; rw [ans_no hh]; rfl
    have e2 : Hid (m.go i (fun s => (s.put (nm, d)).1) = m) := go_no hh
    replace hh := Lib.hid hh
    go_wp2_with fail
    go_ret
    exact ⟨by rw [e1.out]; rfl, by rw [e2.out]; exact hsame.out⟩
  · have e1 : Hid (m.err i (fun s => (s.put (nm, d)).2) = 56) := by unfold Hid Wld.err; rw [ans_dark hh hd]; rfl
    have e2 : Hid (m.go i (fun s => (s.put (nm, d)).1) = m.tick) := go_dark hh hd
    replace hh := Lib.hid hh
    replace hd := Lib.hid hd
    replace hto := Lib.hid (RWTo.ahead hA hto)
    go_wp2_with fail
    go_ret
    exact ⟨by rw [e1.out]; rfl, by rw [e2.out]; exact hto.out⟩
  · obtain ⟨X1, h1, hb1, hn1⟩ := RWTo.ahead hA hto
    have q0 : w1.cell? ⟨w.heap.size, 0, none⟩ = some (.string nm) := by
      obtain ⟨_, _, g2, _⟩ := hto
      exact (World.cell?_of_block (a := ⟨w.heap.size, 0, none⟩) (g2.block _ (by show w.heap.size < _; omega) hwX)).trans x0
    have q1 : w1.cell? ⟨w.heap.size, 1, none⟩ = some (.string d) := by
      obtain ⟨_, _, g2, _⟩ := hto
      exact (World.cell?_of_block (a := ⟨w.heap.size, 1, none⟩) (g2.block _ (by show w.heap.size < _; omega) hwX)).trans x1
    clear hto hsame
    (have hX1 := h1
     obtain ⟨V, U, l, f, rfl, hW⟩ := h1
     obtain ⟨k, rfl, hk, hkt⟩ := has_at hh
     have hk' : k < m.tick.stores.length := hk
     obtain ⟨g, c, rfl⟩ := hW.rowForm (by omega)
     obtain ⟨s, u, q, hx, hq, hst⟩ := hW.at_ (i := k) hk'
     obtain ⟨b0, off, pr, e0, hb0, hpr, o0⟩ := (Owns.row (k := 1) (fun x => ptE.len x) hW.own).pt (i := k) hk'
     simp only [Option.some.injEq, Addr.mk.injEq, and_true] at e0
     obtain ⟨rfl, rfl⟩ := e0
     obtain rfl : pr = q := by rw [hq] at hpr; exact (Option.some.inj hpr).symm
     simp only [Nat.zero_add] at o0
     obtain ⟨y0, _, _, _, _⟩ := hW.box.cells
     have hso := hok.out _ (List.mem_of_getElem? hx)
     have hxm : m.stores[(k : Int).toNat]? = some (s, u) := hx
     have hcall := Lib.hid fun s' w' (hto : RefTo pr (f k) s' w1 w') => show RWTo b (rBlocks b (.slice (some ⟨g, 0, none⟩) m.tick.stores.length c) U f m.tick.stores.length) (m.tick.put k s') w1 w' by
       obtain ⟨f2, r1, r2, r3⟩ := hW.call hx hq hto
       refine ⟨_, ⟨_, U, l, f2, rfl, r1⟩, r2.more (fun x hx => mem_rBlocks.2 (.inr (.inr (.inr ⟨k, hk', hx⟩)))), fun x hx => ?_⟩
       rw [show (m.tick.put k s').stores.length = m.tick.stores.length from by simp [Wld.put]] at hx
       exact r3 x hx
     obtain ⟨n, hn⟩ : ∃ n, n = m.tick.stores.length := ⟨_, rfl⟩
     have hkn : k < n := by omega
     rw [← hn] at y0
     replace hn := Lib.hid hn
     replace hW := Lib.hid hW
     replace hX1 := Lib.hid hX1
     replace hpr := Lib.hid hpr
     replace hq := Lib.hid hq
     replace hx := Lib.hid hx
     replace hxm := Lib.hid hxm
     clear hb0)
    have e1 : Hid (m.err k (fun s => (s.put (nm, d)).2) = (s.put (nm, d)).2) := by unfold Hid Wld.err; exact ans_on hh hd hxm.out
    have e2 : Hid (m.go k (fun s => (s.put (nm, d)).1) = m.tick.put k ((s.put (nm, d)).1)) := by unfold Hid; rw [go_on hh hd hxm.out, hkt]
    replace hh := Lib.hid hh
    replace hd := Lib.hid hd
    clear hkt x0 x1 hA hC hz0
    go_upto_region 4 with fail
    refine region_held_tail 8 (fun W : World => W.cell? ⟨b, 0, none⟩ = some (.slice (some ⟨g, 0, none⟩) n c) ∧ W.cell? ⟨g, k, none⟩ = some (.pointer (some ⟨pr, 0, none⟩)) ∧ W.cell? ⟨w.heap.size, 0, none⟩ = some (.string nm) ∧ W.cell? ⟨w.heap.size, 1, none⟩ = some (.string d)) (by kernel_rfl) (by kernel_rfl) ?_
    have hHeld : (fun W : World => W.cell? ⟨b, 0, none⟩ = some (.slice (some ⟨g, 0, none⟩) n c) ∧ W.cell? ⟨g, k, none⟩ = some (.pointer (some ⟨pr, 0, none⟩)) ∧ W.cell? ⟨w.heap.size, 0, none⟩ = some (.string nm) ∧ W.cell? ⟨w.heap.size, 1, none⟩ = some (.string d)) w1.drew := ⟨y0, o0, q0, q1⟩
    (refine HT.takeL (i := 0) (v := ?_) rfl (by kernel_rfl) (fun _ _ _ h => h) (Or.inl ⟨by rfl, ?_⟩) (by assumption) ?_
     rotate_left
     · (intro w hSw; (try dsimp only at hSw); go_simp; (try with_reducible rfl))
     try simp only [Act.put, List.setIfInBounds_toArray, List.set_cons_zero, List.set_cons_succ])
    (refine HT.takeL (i := 1) (v := ?_) rfl (by kernel_rfl) (fun _ _ _ h => h) (Or.inl ⟨by rfl, ?_⟩) (by assumption) ?_
     rotate_left
     · (intro w hSw; (try dsimp only at hSw); go_simp; (try with_reducible rfl))
     try simp only [Act.put, List.setIfInBounds_toArray, List.set_cons_zero, List.set_cons_succ])
    (refine HT.takeL (i := 2) (v := ?_) rfl (by kernel_rfl) (fun _ _ _ h => h) (Or.inl ⟨by rfl, ?_⟩) (by assumption) ?_
     rotate_left
     · (intro w hSw; (try dsimp only at hSw); go_simp; (try with_reducible rfl))
     try simp only [Act.put, List.setIfInBounds_toArray, List.set_cons_zero, List.set_cons_succ])
    (refine HT.takeL (i := 3) (v := ?_) rfl (by kernel_rfl) (fun _ _ _ h => h) (Or.inl ⟨by rfl, ?_⟩) (by assumption) ?_
     rotate_left
     · (intro w hSw; (try dsimp only at hSw); go_simp; (try with_reducible rfl))
     try simp only [Act.put, List.setIfInBounds_toArray, List.set_cons_zero, List.set_cons_succ])
    (refine HT.takeL (i := 4) (v := ?_) rfl (by kernel_rfl) (fun _ _ _ h => h) (Or.inl ⟨by rfl, ?_⟩) (by assumption) ?_
     rotate_left
     · (intro w hSw; (try dsimp only at hSw); go_simp; (try with_reducible rfl))
     try simp only [Act.put, List.setIfInBounds_toArray, List.set_cons_zero, List.set_cons_succ])
    (refine HT.takeL (i := 5) (v := ?_) rfl (by kernel_rfl) (fun _ _ _ h => h) (Or.inl ⟨by rfl, ?_⟩) (by assumption) ?_
     rotate_left
     · (intro w hSw; (try dsimp only at hSw); go_simp; (try with_reducible rfl))
     try simp only [Act.put, List.setIfInBounds_toArray, List.set_cons_zero, List.set_cons_succ])
    (refine HT.takeL (i := 6) (v := ?_) rfl (by kernel_rfl) (fun _ _ _ h => h) (Or.inl ⟨by rfl, ?_⟩) (by assumption) ?_
     rotate_left
     · (intro w hSw; (try dsimp only at hSw); go_simp; (try with_reducible rfl))
     try simp only [Act.put, List.setIfInBounds_toArray, List.set_cons_zero, List.set_cons_succ])
    (refine HT.takeL (i := 7) (v := ?_) rfl (by kernel_rfl) (fun _ _ _ h => h) (Or.inl ⟨by rfl, ?_⟩) (by assumption) ?_
     rotate_left
     · (intro w hSw; (try dsimp only at hSw); go_simp; (try with_reducible rfl))
     try simp only [Act.put, List.setIfInBounds_toArray, List.set_cons_zero, List.set_cons_succ])
    refine HT.tail (by kernel_rfl) ?_
    simp only [List.drop_succ_cons, List.drop_zero]
    have hst2 : RefAt w1.drew pr (f k) s := hst.block fun _ _ => rfl
    have hdd : Below w1.heap.size w1 w1.drew := (Below.refl _ _).drew
    go_wp2_with fail
    refine (ref07_Put pr (f k) N s hso (nm, d) w1.drew hst2).mono ?_
    rintro e w2 ⟨rfl, hto⟩
    replace hto := RefTo.ahead hdd hto
    have hfin : Hid (RWTo b X (m.tick.put k ((s.put (nm, d)).1)) w w2) := by
      obtain ⟨X2, k1, k2, k3⟩ := hcall.out _ _ hto
      refine ⟨X2, k1, hb1.trans k2 hn1, fun x hx => ?_⟩
      rcases k3 x hx with e | e
      · exact hn1 x e
      · exact .inr (Nat.le_trans hb1.size e)
    clear hto hcall
    go_wp2_with fail
    go_ret
    exact ⟨by rw [e1.out]; rfl, by rw [e2.out]; exact hfin.out⟩

theorem ref08_Cut (b : Nat) (X : List Nat) (m : Wld) (n : Int) (hn : n ≤ 9223372036854775807) (w : World) (h : RWAt w b X m) :
    Calls Tryz.prog 22 #[.pointer (some ⟨b, 0, none⟩), .int .i64 n] w fun e w' => e = .returned (.int .i64 (m.cut n).2) ∧ RWTo b X (m.cut n).1 w w' := by
  have hsame := Lib.hid (RWTo.same h (Below.refl _ _))
  obtain ⟨V, U, l, f, rfl, h⟩ := h
  obtain ⟨c0, c1, c2, c3, c4⟩ := h.box.cells
  have f3 := h.box.frozen 3
  by_cases h0 : n < 0
  · have hr : Hid (m.cut n = (m, 1)) := by unfold Hid Wld.cut; rw [if_pos h0]
    clear h
    go_enter Tryz.func22, Tryz.ntmps22
    go_wp2_with fail
    go_ret
    exact ⟨by rw [hr.out]; rfl, by rw [hr.out]; exact hsame.out⟩
  · have hr : Hid (m.cut n = ({ m with left := n }, 0)) := by unfold Hid Wld.cut; rw [if_neg h0]
    have hb := Lib.hid (h.box.set3 (.int .i64 n))
    replace h := Lib.hid h
    go_enter Tryz.func22, Tryz.ntmps22
    go_wp2_with fail
    go_ret
    refine ⟨by rw [hr.out]; rfl, by rw [hr.out]; exact ⟨_, ⟨V, U, l, f, rfl, h.out.set hb.out rfl h.out.calls (by dsimp only; omega) hn⟩, But.of_set _ (mem_rBlocks.2 (.inl rfl)), fun i hi => .inl hi⟩⟩
end Go.Proofs.YtfkonpmnclknaaaGreat
