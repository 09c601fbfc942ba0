/-
  A call of a world: it is counted, and done, if the power is there.
-/
import Derived.Test.YtfkonpmnclknaaaWldA
namespace Go.Proofs.Ytfkonpmnclknaaa
open Go.RowKit
attribute [local go_sem ↓] Go.wp_at_zero Go.wp_at_succ

/-- What the counting of a call makes of a world. -/
def Wld.tick (m : Wld) : Wld := { m with calls := m.calls + 1, dark := m.dark || decide (m.left = 0), left := if m.dark = true ∨ m.left = 0 then m.left else if 0 < m.left then m.left - 1 else m.left }
theorem tick_stores (m : Wld) : m.tick.stores = m.stores := rfl
/-- What a call answers, that hands on to a store. -/
def WAns (b N M : Nat) (X : List Nat) (m : Wld) (i : Int) (zero : Value) (R : Sto → Value → Value → World → World → Prop) (g : Sto → Sto) (w : World) (e : Ending) (w' : World) : Prop :=
  (m.has i = false ∧ e = .returned (.tuple #[zero, .int .i64 1]) ∧ w' = w) ∨
  (m.has i = true ∧ m.tick.dark = true ∧ e = .returned (.tuple #[zero, .int .i64 56]) ∧ WldTo b X N m.tick w w') ∨
  (m.has i = true ∧ m.tick.dark = false ∧ ∃ s u v z W, m.stores[i.toNat]? = some (s, u) ∧ But [b] w W ∧ WldAt W b X N m.tick ∧ e = .returned (.tuple #[v, z]) ∧ R s v z W w' ∧ WldTo b X M (m.tick.put i.toNat (g s)) w w')
/-- What a store's call within a world's has to answer. -/
def WDo (b N M : Nat) (X : List Nat) (m : Wld) (i : Int) (R : Sto → Value → Value → World → World → Prop) (g : Sto → Sto) (w : World) (f : FuncId) (extra : Array Value) : Prop :=
  ∀ W q F s u, But [b] w W → m.stores[i.toNat]? = some (s, u) → StoAt W q F N s → (∀ x ∈ F, x ∈ X) → Calls Try.prog f (#[.pointer (some ⟨q, 0, none⟩)] ++ extra) W fun e W' => (∃ v z, e = .returned (.tuple #[v, z]) ∧ R s v z W W') ∧ StoTo q F M (g s) W W'

theorem has_at {m : Wld} {i : Int} (h : m.has i = true) : ∃ k : Nat, i = k ∧ k < m.stores.length ∧ i.toNat = k := by
  unfold Wld.has at h
  simp at h
  exact ⟨i.toNat, by omega, by omega, rfl⟩

set_option maxHeartbeats 4000000 in
set_option maxRecDepth 100000 in
theorem world_call_s (b N M : Nat) (X : List Nat) (m : Wld) (i : Int) (w : World) (p : Nat) (h : WldAt w b X N m) (hM : N ≤ M) (hM9 : M ≤ 1000000) (hm9 : m.calls + 1 ≤ 1000000)
    (R : Sto → Value → Value → World → World → Prop) (g : Sto → Sto) (hdo : WDo b N M X m i R g w 73 #[.pointer (some ⟨p, 0, none⟩)]) :
    Calls Try.prog 72 #[.pointer (some ⟨b, 0, none⟩), .int .i64 i, .func (.func 73) #[] #[.pointer (some ⟨p, 0, none⟩)]] w (WAns b N M X m i (.string ⟨#[]⟩) R g w) := by
  have hH := world_has b N X m i w h
  cases hh : m.has i with
  | false =>
    rw [hh] at hH
    go_enter Try.func72, Try.ntmps72
    go_wp2_with fail
    refine hH.mono ?_
    rintro e w1 ⟨rfl, rfl⟩
    go_wp2_with fail
    go_ret2
    exact .inl ⟨hh, rfl, rfl⟩
  | true =>
    rw [hh] at hH
    obtain ⟨k, rfl, hk, hkt⟩ := has_at hh
    obtain ⟨V, l, f, rfl, h⟩ := h
    have hc9 := h.calls
    have hlo := h.lo
    have hhi := h.hi
    have f1 := h.box.frozen 1
    have f2 := h.box.frozen 2
    have f3 := h.box.frozen 3
    obtain ⟨c0, c1, c2, c3⟩ := h.box.cells
    by_cases hd : m.dark = true ∨ m.left = 0
    · have ht : Hid (m.tick.dark = true) := by unfold Hid Wld.tick; simpa using hd
      have hb := (h.box.set1 (.int .i64 (m.calls + 1))).set3 (.bool true)
      obtain ⟨d0, d1, d2, d3⟩ := hb.cells
      have hfin : Hid (WldTo b (wBlocks b V f m.stores.length) N m.tick w ((w.setCell ⟨b, 1, none⟩ (.int .i64 (m.calls + 1))).setCell ⟨b, 3, none⟩ (.bool true))) := by
        have e1 := WldIn.set (m' := { m with calls := m.calls + 1 }) h (h.box.set1 (.int .i64 (m.calls + 1))) rfl hm9 hlo hhi
        have e2 := WldIn.set (m' := m.tick) e1 (o := 3) (u := .bool true) (by rw [ht.out]; unfold Wld.tick; rw [if_pos hd]; exact hb) rfl (by unfold Wld.tick; exact hm9) (by unfold Wld.tick; dsimp only; rw [if_pos hd]; exact hlo) (by unfold Wld.tick; dsimp only; rw [if_pos hd]; exact hhi)
        exact ⟨_, ⟨V, l, f, rfl, e2⟩, (But.of_set _ (mem_wBlocks.2 (.inl rfl))).trans (But.of_set (F := [b]) _ (by simp)) (by intro i hi; simp at hi; subst hi; exact .inl (mem_wBlocks.2 (.inl rfl))), fun i hi => .inl hi⟩
      replace h := Lib.hid h
      replace hb := Lib.hid hb
      replace hh := Lib.hid hh
      rcases hd with hd | hd
      · rw [hd] at c3
        replace hd := Lib.hid hd
        go_enter Try.func72, Try.ntmps72
        go_wp2_with fail
        refine hH.mono ?_
        rintro e w1 ⟨rfl, rfl⟩
        go_wp2_with fail
        go_ret2
        exact .inr (.inl ⟨hh.out, ht.out, rfl, hfin.out⟩)
      · rw [hd] at c2 d2
        replace hd := Lib.hid hd
        cases hdk : m.dark
        · rw [hdk] at c3
          replace hdk := Lib.hid hdk
          go_enter Try.func72, Try.ntmps72
          go_wp2_with fail
          refine hH.mono ?_
          rintro e w1 ⟨rfl, rfl⟩
          go_wp2_with fail
          go_ret2
          exact .inr (.inl ⟨hh.out, ht.out, rfl, hfin.out⟩)
        · rw [hdk] at c3
          replace hdk := Lib.hid hdk
          go_enter Try.func72, Try.ntmps72
          go_wp2_with fail
          refine hH.mono ?_
          rintro e w1 ⟨rfl, rfl⟩
          go_wp2_with fail
          go_ret2
          exact .inr (.inl ⟨hh.out, ht.out, rfl, hfin.out⟩)
    · obtain ⟨hd, hl0⟩ : m.dark = false ∧ m.left ≠ 0 := by simpa using hd
      have ht : Hid (m.tick.dark = false) := by unfold Hid Wld.tick; simp [hd, hl0]
      have hl1 : (m.left == 0) = false := by simpa using hl0
      rw [hd] at c3
      by_cases hp : 0 < m.left
      · have hb := ((h.box.set1 (.int .i64 (m.calls + 1))).set3 (.bool false)).set2 (.int .i64 (m.left - 1))
        have e2 : WldIn (((w.setCell ⟨b, 1, none⟩ (.int .i64 (m.calls + 1))).setCell ⟨b, 3, none⟩ (.bool false)).setCell ⟨b, 2, none⟩ (.int .i64 (m.left - 1))) b V l f N m.tick := by
          have e1 := WldIn.set (m' := { m with calls := m.calls + 1 }) h (h.box.set1 (.int .i64 (m.calls + 1))) rfl hm9 hlo hhi
          have e2 := WldIn.set (m' := { m with calls := m.calls + 1, dark := false }) e1 (o := 3) (u := .bool false) ((h.box.set1 (.int .i64 (m.calls + 1))).set3 (.bool false)) rfl hm9 hlo hhi
          refine WldIn.set (m' := m.tick) e2 (o := 2) (u := .int .i64 (m.left - 1)) (by rw [ht.out]; unfold Wld.tick; rw [if_neg (by simp [hd, hl0]), if_pos hp]; exact hb) rfl (by unfold Wld.tick; exact hm9) (by unfold Wld.tick; dsimp only; rw [if_neg (by simp [hd, hl0]), if_pos hp]; omega) (by unfold Wld.tick; dsimp only; rw [if_neg (by simp [hd, hl0]), if_pos hp]; omega)
        have hbut : But [b] w (((w.setCell ⟨b, 1, none⟩ (.int .i64 (m.calls + 1))).setCell ⟨b, 3, none⟩ (.bool false)).setCell ⟨b, 2, none⟩ (.int .i64 (m.left - 1))) :=
          ((But.of_set (F := [b]) _ (by simp)).trans (But.of_set (F := [b]) _ (by simp)) (by simp)).trans (But.of_set (F := [b]) _ (by simp)) (by simp)
        have g1 := ((h.box.set1 (.int .i64 (m.calls + 1))).set3 (.bool false)).cells
        obtain ⟨y0, y1, y2, y3⟩ := g1
        (obtain ⟨A, n, c, rfl⟩ : ∃ A m c, V = .slice A m c := by obtain ⟨A, c, e⟩ := Owns.form h.own; exact ⟨A, _, c, e⟩
         have hn : n = m.stores.length := by rw [← h.len]; exact (Owns.row (k := 2) (fun x => oneE.len x) h.own).1.symm
         obtain ⟨s, u, q, hx, hq, hst⟩ := e2.at_ (i := k) hk
         obtain ⟨b0, off, pr, rfl, hb0, hpr, o0, o1⟩ := (Owns.row (k := 2) (fun x => oneE.len x) e2.own).one (i := k) (by omega)
         obtain rfl : pr = (q, u) := by rw [hq] at hpr; exact (Option.some.inj hpr).symm
         obtain ⟨z0, z1, z2, z3⟩ := e2.box.cells
         have hWt := Lib.hid (show WldAt _ b (wBlocks b (.slice (some ⟨b0, off, none⟩) n c) f m.stores.length) N m.tick from ⟨_, l, f, rfl, e2⟩)
         have hD := hdo _ q (f k) s u hbut (by rw [hkt]; exact hx) hst (fun x hxf => mem_wBlocks.2 (.inr (.inr ⟨k, hk, hxf⟩)))
         have hkn : k < n := by omega
         have hfin : ∀ w', StoTo q (f k) M (g s) _ w' → WldTo b (wBlocks b (.slice (some ⟨b0, off, none⟩) n c) f m.stores.length) M (m.tick.put k (g s)) w w' := fun w' hto => by
           obtain ⟨f', r1, r2, r3⟩ := e2.call hx hq hto hM hM9
           refine ⟨_, ⟨_, l, f', by rw [show (m.tick.put k (g s)).stores.length = m.stores.length from by simp [Wld.put, Wld.tick]], r1⟩, (hbut.more (by intro x hx; simp at hx; subst hx; exact mem_wBlocks.2 (.inl rfl))).trans r2 (fun x hx => .inl (mem_wBlocks.2 (.inr (.inr ⟨k, hk, hx⟩)))), fun x hx => ?_⟩
           rcases r3 x hx with e | e
           · exact .inl e
           · exact .inr (by simpa using e)
         have hxm : m.stores[(k : Int).toNat]? = some (s, u) := hx
         replace hfin := Lib.hid hfin
         replace hxm := Lib.hid hxm
         replace hbut := Lib.hid hbut
         replace hh := Lib.hid hh
         replace hD := Lib.hid hD
         replace hn := Lib.hid hn
         replace hd := Lib.hid hd
         replace hl0 := Lib.hid hl0
         clear h e2 hx hq hst hpr
         go_enter Try.func72, Try.ntmps72
         go_wp2_with fail
         refine hH.mono ?_
         rintro e w1 ⟨rfl, rfl⟩
         go_wp2_with fail
         refine hD.out.mono ?_
         rintro e w' ⟨⟨v, z, rfl, hR⟩, hto⟩
         have hf2 := hfin.out _ hto
         clear hfin hto
         go_wp2_with fail
         go_ret2
         exact .inr (.inr ⟨hh.out, ht.out, s, u, v, z, _, hxm.out, hbut.out, hWt.out, rfl, hR, hf2⟩))
      · have hlm : m.left < 0 := by omega
        have e2 : WldIn ((w.setCell ⟨b, 1, none⟩ (.int .i64 (m.calls + 1))).setCell ⟨b, 3, none⟩ (.bool false)) b V l f N m.tick := by
          have e1 := WldIn.set (m' := { m with calls := m.calls + 1 }) h (h.box.set1 (.int .i64 (m.calls + 1))) rfl hm9 hlo hhi
          have hb := (h.box.set1 (.int .i64 (m.calls + 1))).set3 (.bool false)
          refine WldIn.set (m' := m.tick) e1 (o := 3) (u := .bool false) (by rw [ht.out]; unfold Wld.tick; rw [if_neg (by simp [hd, hl0]), if_neg hp]; exact hb) rfl (by unfold Wld.tick; exact hm9) (by unfold Wld.tick; dsimp only; rw [if_neg (by simp [hd, hl0]), if_neg hp]; omega) (by unfold Wld.tick; dsimp only; rw [if_neg (by simp [hd, hl0]), if_neg hp]; omega)
        have hbut : But [b] w ((w.setCell ⟨b, 1, none⟩ (.int .i64 (m.calls + 1))).setCell ⟨b, 3, none⟩ (.bool false)) :=
          (But.of_set (F := [b]) _ (by simp)).trans (But.of_set (F := [b]) _ (by simp)) (by simp)
        have g1 := ((h.box.set1 (.int .i64 (m.calls + 1))).set3 (.bool false)).cells
        obtain ⟨y0, y1, y2, y3⟩ := g1
        (obtain ⟨A, n, c, rfl⟩ : ∃ A m c, V = .slice A m c := by obtain ⟨A, c, e⟩ := Owns.form h.own; exact ⟨A, _, c, e⟩
         have hn : n = m.stores.length := by rw [← h.len]; exact (Owns.row (k := 2) (fun x => oneE.len x) h.own).1.symm
         obtain ⟨s, u, q, hx, hq, hst⟩ := e2.at_ (i := k) hk
         obtain ⟨b0, off, pr, rfl, hb0, hpr, o0, o1⟩ := (Owns.row (k := 2) (fun x => oneE.len x) e2.own).one (i := k) (by omega)
         obtain rfl : pr = (q, u) := by rw [hq] at hpr; exact (Option.some.inj hpr).symm
         obtain ⟨z0, z1, z2, z3⟩ := e2.box.cells
         have hWt := Lib.hid (show WldAt _ b (wBlocks b (.slice (some ⟨b0, off, none⟩) n c) f m.stores.length) N m.tick from ⟨_, l, f, rfl, e2⟩)
         have hD := hdo _ q (f k) s u hbut (by rw [hkt]; exact hx) hst (fun x hxf => mem_wBlocks.2 (.inr (.inr ⟨k, hk, hxf⟩)))
         have hkn : k < n := by omega
         have hfin : ∀ w', StoTo q (f k) M (g s) _ w' → WldTo b (wBlocks b (.slice (some ⟨b0, off, none⟩) n c) f m.stores.length) M (m.tick.put k (g s)) w w' := fun w' hto => by
           obtain ⟨f', r1, r2, r3⟩ := e2.call hx hq hto hM hM9
           refine ⟨_, ⟨_, l, f', by rw [show (m.tick.put k (g s)).stores.length = m.stores.length from by simp [Wld.put, Wld.tick]], r1⟩, (hbut.more (by intro x hx; simp at hx; subst hx; exact mem_wBlocks.2 (.inl rfl))).trans r2 (fun x hx => .inl (mem_wBlocks.2 (.inr (.inr ⟨k, hk, hx⟩)))), fun x hx => ?_⟩
           rcases r3 x hx with e | e
           · exact .inl e
           · exact .inr (by simpa using e)
         have hxm : m.stores[(k : Int).toNat]? = some (s, u) := hx
         replace hfin := Lib.hid hfin
         replace hxm := Lib.hid hxm
         replace hbut := Lib.hid hbut
         replace hh := Lib.hid hh
         replace hD := Lib.hid hD
         replace hn := Lib.hid hn
         replace hd := Lib.hid hd
         replace hl0 := Lib.hid hl0
         clear h e2 hx hq hst hpr
         go_enter Try.func72, Try.ntmps72
         go_wp2_with fail
         refine hH.mono ?_
         rintro e w1 ⟨rfl, rfl⟩
         go_wp2_with fail
         refine hD.out.mono ?_
         rintro e w' ⟨⟨v, z, rfl, hR⟩, hto⟩
         have hf2 := hfin.out _ hto
         clear hfin hto
         go_wp2_with fail
         go_ret2
         exact .inr (.inr ⟨hh.out, ht.out, s, u, v, z, _, hxm.out, hbut.out, hWt.out, rfl, hR, hf2⟩))

set_option maxHeartbeats 4000000 in
set_option maxRecDepth 100000 in
theorem world_call_l (b N M : Nat) (X : List Nat) (m : Wld) (i : Int) (w : World)  (h : WldAt w b X N m) (hM : N ≤ M) (hM9 : M ≤ 1000000) (hm9 : m.calls + 1 ≤ 1000000)
    (R : Sto → Value → Value → World → World → Prop) (g : Sto → Sto) (hdo : WDo b N M X m i R g w 50 #[]) :
    Calls Try.prog 74 #[.pointer (some ⟨b, 0, none⟩), .int .i64 i, .func (.func 50) #[] #[]] w (WAns b N M X m i (.slice none 0 0) R g w) := by
  have hH := world_has b N X m i w h
  cases hh : m.has i with
  | false =>
    rw [hh] at hH
    go_enter Try.func74, Try.ntmps74
    go_wp2_with fail
    refine hH.mono ?_
    rintro e w1 ⟨rfl, rfl⟩
    go_wp2_with fail
    go_ret2
    exact .inl ⟨hh, rfl, rfl⟩
  | true =>
    rw [hh] at hH
    obtain ⟨k, rfl, hk, hkt⟩ := has_at hh
    obtain ⟨V, l, f, rfl, h⟩ := h
    have hc9 := h.calls
    have hlo := h.lo
    have hhi := h.hi
    have f1 := h.box.frozen 1
    have f2 := h.box.frozen 2
    have f3 := h.box.frozen 3
    obtain ⟨c0, c1, c2, c3⟩ := h.box.cells
    by_cases hd : m.dark = true ∨ m.left = 0
    · have ht : Hid (m.tick.dark = true) := by unfold Hid Wld.tick; simpa using hd
      have hb := (h.box.set1 (.int .i64 (m.calls + 1))).set3 (.bool true)
      obtain ⟨d0, d1, d2, d3⟩ := hb.cells
      have hfin : Hid (WldTo b (wBlocks b V f m.stores.length) N m.tick w ((w.setCell ⟨b, 1, none⟩ (.int .i64 (m.calls + 1))).setCell ⟨b, 3, none⟩ (.bool true))) := by
        have e1 := WldIn.set (m' := { m with calls := m.calls + 1 }) h (h.box.set1 (.int .i64 (m.calls + 1))) rfl hm9 hlo hhi
        have e2 := WldIn.set (m' := m.tick) e1 (o := 3) (u := .bool true) (by rw [ht.out]; unfold Wld.tick; rw [if_pos hd]; exact hb) rfl (by unfold Wld.tick; exact hm9) (by unfold Wld.tick; dsimp only; rw [if_pos hd]; exact hlo) (by unfold Wld.tick; dsimp only; rw [if_pos hd]; exact hhi)
        exact ⟨_, ⟨V, l, f, rfl, e2⟩, (But.of_set _ (mem_wBlocks.2 (.inl rfl))).trans (But.of_set (F := [b]) _ (by simp)) (by intro i hi; simp at hi; subst hi; exact .inl (mem_wBlocks.2 (.inl rfl))), fun i hi => .inl hi⟩
      replace h := Lib.hid h
      replace hb := Lib.hid hb
      replace hh := Lib.hid hh
      rcases hd with hd | hd
      · rw [hd] at c3
        replace hd := Lib.hid hd
        go_enter Try.func74, Try.ntmps74
        go_wp2_with fail
        refine hH.mono ?_
        rintro e w1 ⟨rfl, rfl⟩
        go_wp2_with fail
        go_ret2
        exact .inr (.inl ⟨hh.out, ht.out, rfl, hfin.out⟩)
      · rw [hd] at c2 d2
        replace hd := Lib.hid hd
        cases hdk : m.dark
        · rw [hdk] at c3
          replace hdk := Lib.hid hdk
          go_enter Try.func74, Try.ntmps74
          go_wp2_with fail
          refine hH.mono ?_
          rintro e w1 ⟨rfl, rfl⟩
          go_wp2_with fail
          go_ret2
          exact .inr (.inl ⟨hh.out, ht.out, rfl, hfin.out⟩)
        · rw [hdk] at c3
          replace hdk := Lib.hid hdk
          go_enter Try.func74, Try.ntmps74
          go_wp2_with fail
          refine hH.mono ?_
          rintro e w1 ⟨rfl, rfl⟩
          go_wp2_with fail
          go_ret2
          exact .inr (.inl ⟨hh.out, ht.out, rfl, hfin.out⟩)
    · obtain ⟨hd, hl0⟩ : m.dark = false ∧ m.left ≠ 0 := by simpa using hd
      have ht : Hid (m.tick.dark = false) := by unfold Hid Wld.tick; simp [hd, hl0]
      have hl1 : (m.left == 0) = false := by simpa using hl0
      rw [hd] at c3
      by_cases hp : 0 < m.left
      · have hb := ((h.box.set1 (.int .i64 (m.calls + 1))).set3 (.bool false)).set2 (.int .i64 (m.left - 1))
        have e2 : WldIn (((w.setCell ⟨b, 1, none⟩ (.int .i64 (m.calls + 1))).setCell ⟨b, 3, none⟩ (.bool false)).setCell ⟨b, 2, none⟩ (.int .i64 (m.left - 1))) b V l f N m.tick := by
          have e1 := WldIn.set (m' := { m with calls := m.calls + 1 }) h (h.box.set1 (.int .i64 (m.calls + 1))) rfl hm9 hlo hhi
          have e2 := WldIn.set (m' := { m with calls := m.calls + 1, dark := false }) e1 (o := 3) (u := .bool false) ((h.box.set1 (.int .i64 (m.calls + 1))).set3 (.bool false)) rfl hm9 hlo hhi
          refine WldIn.set (m' := m.tick) e2 (o := 2) (u := .int .i64 (m.left - 1)) (by rw [ht.out]; unfold Wld.tick; rw [if_neg (by simp [hd, hl0]), if_pos hp]; exact hb) rfl (by unfold Wld.tick; exact hm9) (by unfold Wld.tick; dsimp only; rw [if_neg (by simp [hd, hl0]), if_pos hp]; omega) (by unfold Wld.tick; dsimp only; rw [if_neg (by simp [hd, hl0]), if_pos hp]; omega)
        have hbut : But [b] w (((w.setCell ⟨b, 1, none⟩ (.int .i64 (m.calls + 1))).setCell ⟨b, 3, none⟩ (.bool false)).setCell ⟨b, 2, none⟩ (.int .i64 (m.left - 1))) :=
          ((But.of_set (F := [b]) _ (by simp)).trans (But.of_set (F := [b]) _ (by simp)) (by simp)).trans (But.of_set (F := [b]) _ (by simp)) (by simp)
        have g1 := ((h.box.set1 (.int .i64 (m.calls + 1))).set3 (.bool false)).cells
        obtain ⟨y0, y1, y2, y3⟩ := g1
        (obtain ⟨A, n, c, rfl⟩ : ∃ A m c, V = .slice A m c := by obtain ⟨A, c, e⟩ := Owns.form h.own; exact ⟨A, _, c, e⟩
         have hn : n = m.stores.length := by rw [← h.len]; exact (Owns.row (k := 2) (fun x => oneE.len x) h.own).1.symm
         obtain ⟨s, u, q, hx, hq, hst⟩ := e2.at_ (i := k) hk
         obtain ⟨b0, off, pr, rfl, hb0, hpr, o0, o1⟩ := (Owns.row (k := 2) (fun x => oneE.len x) e2.own).one (i := k) (by omega)
         obtain rfl : pr = (q, u) := by rw [hq] at hpr; exact (Option.some.inj hpr).symm
         obtain ⟨z0, z1, z2, z3⟩ := e2.box.cells
         have hWt := Lib.hid (show WldAt _ b (wBlocks b (.slice (some ⟨b0, off, none⟩) n c) f m.stores.length) N m.tick from ⟨_, l, f, rfl, e2⟩)
         have hD := hdo _ q (f k) s u hbut (by rw [hkt]; exact hx) hst (fun x hxf => mem_wBlocks.2 (.inr (.inr ⟨k, hk, hxf⟩)))
         have hkn : k < n := by omega
         have hfin : ∀ w', StoTo q (f k) M (g s) _ w' → WldTo b (wBlocks b (.slice (some ⟨b0, off, none⟩) n c) f m.stores.length) M (m.tick.put k (g s)) w w' := fun w' hto => by
           obtain ⟨f', r1, r2, r3⟩ := e2.call hx hq hto hM hM9
           refine ⟨_, ⟨_, l, f', by rw [show (m.tick.put k (g s)).stores.length = m.stores.length from by simp [Wld.put, Wld.tick]], r1⟩, (hbut.more (by intro x hx; simp at hx; subst hx; exact mem_wBlocks.2 (.inl rfl))).trans r2 (fun x hx => .inl (mem_wBlocks.2 (.inr (.inr ⟨k, hk, hx⟩)))), fun x hx => ?_⟩
           rcases r3 x hx with e | e
           · exact .inl e
           · exact .inr (by simpa using e)
         have hxm : m.stores[(k : Int).toNat]? = some (s, u) := hx
         replace hfin := Lib.hid hfin
         replace hxm := Lib.hid hxm
         replace hbut := Lib.hid hbut
         replace hh := Lib.hid hh
         replace hD := Lib.hid hD
         replace hn := Lib.hid hn
         replace hd := Lib.hid hd
         replace hl0 := Lib.hid hl0
         clear h e2 hx hq hst hpr
         go_enter Try.func74, Try.ntmps74
         go_wp2_with fail
         refine hH.mono ?_
         rintro e w1 ⟨rfl, rfl⟩
         go_wp2_with fail
         refine hD.out.mono ?_
         rintro e w' ⟨⟨v, z, rfl, hR⟩, hto⟩
         have hf2 := hfin.out _ hto
         clear hfin hto
         go_wp2_with fail
         go_ret2
         exact .inr (.inr ⟨hh.out, ht.out, s, u, v, z, _, hxm.out, hbut.out, hWt.out, rfl, hR, hf2⟩))
      · have hlm : m.left < 0 := by omega
        have e2 : WldIn ((w.setCell ⟨b, 1, none⟩ (.int .i64 (m.calls + 1))).setCell ⟨b, 3, none⟩ (.bool false)) b V l f N m.tick := by
          have e1 := WldIn.set (m' := { m with calls := m.calls + 1 }) h (h.box.set1 (.int .i64 (m.calls + 1))) rfl hm9 hlo hhi
          have hb := (h.box.set1 (.int .i64 (m.calls + 1))).set3 (.bool false)
          refine WldIn.set (m' := m.tick) e1 (o := 3) (u := .bool false) (by rw [ht.out]; unfold Wld.tick; rw [if_neg (by simp [hd, hl0]), if_neg hp]; exact hb) rfl (by unfold Wld.tick; exact hm9) (by unfold Wld.tick; dsimp only; rw [if_neg (by simp [hd, hl0]), if_neg hp]; omega) (by unfold Wld.tick; dsimp only; rw [if_neg (by simp [hd, hl0]), if_neg hp]; omega)
        have hbut : But [b] w ((w.setCell ⟨b, 1, none⟩ (.int .i64 (m.calls + 1))).setCell ⟨b, 3, none⟩ (.bool false)) :=
          (But.of_set (F := [b]) _ (by simp)).trans (But.of_set (F := [b]) _ (by simp)) (by simp)
        have g1 := ((h.box.set1 (.int .i64 (m.calls + 1))).set3 (.bool false)).cells
        obtain ⟨y0, y1, y2, y3⟩ := g1
        (obtain ⟨A, n, c, rfl⟩ : ∃ A m c, V = .slice A m c := by obtain ⟨A, c, e⟩ := Owns.form h.own; exact ⟨A, _, c, e⟩
         have hn : n = m.stores.length := by rw [← h.len]; exact (Owns.row (k := 2) (fun x => oneE.len x) h.own).1.symm
         obtain ⟨s, u, q, hx, hq, hst⟩ := e2.at_ (i := k) hk
         obtain ⟨b0, off, pr, rfl, hb0, hpr, o0, o1⟩ := (Owns.row (k := 2) (fun x => oneE.len x) e2.own).one (i := k) (by omega)
         obtain rfl : pr = (q, u) := by rw [hq] at hpr; exact (Option.some.inj hpr).symm
         obtain ⟨z0, z1, z2, z3⟩ := e2.box.cells
         have hWt := Lib.hid (show WldAt _ b (wBlocks b (.slice (some ⟨b0, off, none⟩) n c) f m.stores.length) N m.tick from ⟨_, l, f, rfl, e2⟩)
         have hD := hdo _ q (f k) s u hbut (by rw [hkt]; exact hx) hst (fun x hxf => mem_wBlocks.2 (.inr (.inr ⟨k, hk, hxf⟩)))
         have hkn : k < n := by omega
         have hfin : ∀ w', StoTo q (f k) M (g s) _ w' → WldTo b (wBlocks b (.slice (some ⟨b0, off, none⟩) n c) f m.stores.length) M (m.tick.put k (g s)) w w' := fun w' hto => by
           obtain ⟨f', r1, r2, r3⟩ := e2.call hx hq hto hM hM9
           refine ⟨_, ⟨_, l, f', by rw [show (m.tick.put k (g s)).stores.length = m.stores.length from by simp [Wld.put, Wld.tick]], r1⟩, (hbut.more (by intro x hx; simp at hx; subst hx; exact mem_wBlocks.2 (.inl rfl))).trans r2 (fun x hx => .inl (mem_wBlocks.2 (.inr (.inr ⟨k, hk, hx⟩)))), fun x hx => ?_⟩
           rcases r3 x hx with e | e
           · exact .inl e
           · exact .inr (by simpa using e)
         have hxm : m.stores[(k : Int).toNat]? = some (s, u) := hx
         replace hfin := Lib.hid hfin
         replace hxm := Lib.hid hxm
         replace hbut := Lib.hid hbut
         replace hh := Lib.hid hh
         replace hD := Lib.hid hD
         replace hn := Lib.hid hn
         replace hd := Lib.hid hd
         replace hl0 := Lib.hid hl0
         clear h e2 hx hq hst hpr
         go_enter Try.func74, Try.ntmps74
         go_wp2_with fail
         refine hH.mono ?_
         rintro e w1 ⟨rfl, rfl⟩
         go_wp2_with fail
         refine hD.out.mono ?_
         rintro e w' ⟨⟨v, z, rfl, hR⟩, hto⟩
         have hf2 := hfin.out _ hto
         clear hfin hto
         go_wp2_with fail
         go_ret2
         exact .inr (.inr ⟨hh.out, ht.out, s, u, v, z, _, hxm.out, hbut.out, hWt.out, rfl, hR, hf2⟩))

set_option maxHeartbeats 4000000 in
set_option maxRecDepth 100000 in
theorem world_call_b (b N M : Nat) (X : List Nat) (m : Wld) (i : Int) (w : World) (p : Nat) (h : WldAt w b X N m) (hM : N ≤ M) (hM9 : M ≤ 1000000) (hm9 : m.calls + 1 ≤ 1000000)
    (R : Sto → Value → Value → World → World → Prop) (g : Sto → Sto) (hdo : WDo b N M X m i R g w 95 #[.pointer (some ⟨p, 0, none⟩)]) :
    Calls Try.prog 94 #[.pointer (some ⟨b, 0, none⟩), .int .i64 i, .func (.func 95) #[] #[.pointer (some ⟨p, 0, none⟩)]] w (WAns b N M X m i (.bool false) R g w) := by
  have hH := world_has b N X m i w h
  cases hh : m.has i with
  | false =>
    rw [hh] at hH
    go_enter Try.func94, Try.ntmps94
    go_wp2_with fail
    refine hH.mono ?_
    rintro e w1 ⟨rfl, rfl⟩
    go_wp2_with fail
    go_ret2
    exact .inl ⟨hh, rfl, rfl⟩
  | true =>
    rw [hh] at hH
    obtain ⟨k, rfl, hk, hkt⟩ := has_at hh
    obtain ⟨V, l, f, rfl, h⟩ := h
    have hc9 := h.calls
    have hlo := h.lo
    have hhi := h.hi
    have f1 := h.box.frozen 1
    have f2 := h.box.frozen 2
    have f3 := h.box.frozen 3
    obtain ⟨c0, c1, c2, c3⟩ := h.box.cells
    by_cases hd : m.dark = true ∨ m.left = 0
    · have ht : Hid (m.tick.dark = true) := by unfold Hid Wld.tick; simpa using hd
      have hb := (h.box.set1 (.int .i64 (m.calls + 1))).set3 (.bool true)
      obtain ⟨d0, d1, d2, d3⟩ := hb.cells
      have hfin : Hid (WldTo b (wBlocks b V f m.stores.length) N m.tick w ((w.setCell ⟨b, 1, none⟩ (.int .i64 (m.calls + 1))).setCell ⟨b, 3, none⟩ (.bool true))) := by
        have e1 := WldIn.set (m' := { m with calls := m.calls + 1 }) h (h.box.set1 (.int .i64 (m.calls + 1))) rfl hm9 hlo hhi
        have e2 := WldIn.set (m' := m.tick) e1 (o := 3) (u := .bool true) (by rw [ht.out]; unfold Wld.tick; rw [if_pos hd]; exact hb) rfl (by unfold Wld.tick; exact hm9) (by unfold Wld.tick; dsimp only; rw [if_pos hd]; exact hlo) (by unfold Wld.tick; dsimp only; rw [if_pos hd]; exact hhi)
        exact ⟨_, ⟨V, l, f, rfl, e2⟩, (But.of_set _ (mem_wBlocks.2 (.inl rfl))).trans (But.of_set (F := [b]) _ (by simp)) (by intro i hi; simp at hi; subst hi; exact .inl (mem_wBlocks.2 (.inl rfl))), fun i hi => .inl hi⟩
      replace h := Lib.hid h
      replace hb := Lib.hid hb
      replace hh := Lib.hid hh
      rcases hd with hd | hd
      · rw [hd] at c3
        replace hd := Lib.hid hd
        go_enter Try.func94, Try.ntmps94
        go_wp2_with fail
        refine hH.mono ?_
        rintro e w1 ⟨rfl, rfl⟩
        go_wp2_with fail
        go_ret2
        exact .inr (.inl ⟨hh.out, ht.out, rfl, hfin.out⟩)
      · rw [hd] at c2 d2
        replace hd := Lib.hid hd
        cases hdk : m.dark
        · rw [hdk] at c3
          replace hdk := Lib.hid hdk
          go_enter Try.func94, Try.ntmps94
          go_wp2_with fail
          refine hH.mono ?_
          rintro e w1 ⟨rfl, rfl⟩
          go_wp2_with fail
          go_ret2
          exact .inr (.inl ⟨hh.out, ht.out, rfl, hfin.out⟩)
        · rw [hdk] at c3
          replace hdk := Lib.hid hdk
          go_enter Try.func94, Try.ntmps94
          go_wp2_with fail
          refine hH.mono ?_
          rintro e w1 ⟨rfl, rfl⟩
          go_wp2_with fail
          go_ret2
          exact .inr (.inl ⟨hh.out, ht.out, rfl, hfin.out⟩)
    · obtain ⟨hd, hl0⟩ : m.dark = false ∧ m.left ≠ 0 := by simpa using hd
      have ht : Hid (m.tick.dark = false) := by unfold Hid Wld.tick; simp [hd, hl0]
      have hl1 : (m.left == 0) = false := by simpa using hl0
      rw [hd] at c3
      by_cases hp : 0 < m.left
      · have hb := ((h.box.set1 (.int .i64 (m.calls + 1))).set3 (.bool false)).set2 (.int .i64 (m.left - 1))
        have e2 : WldIn (((w.setCell ⟨b, 1, none⟩ (.int .i64 (m.calls + 1))).setCell ⟨b, 3, none⟩ (.bool false)).setCell ⟨b, 2, none⟩ (.int .i64 (m.left - 1))) b V l f N m.tick := by
          have e1 := WldIn.set (m' := { m with calls := m.calls + 1 }) h (h.box.set1 (.int .i64 (m.calls + 1))) rfl hm9 hlo hhi
          have e2 := WldIn.set (m' := { m with calls := m.calls + 1, dark := false }) e1 (o := 3) (u := .bool false) ((h.box.set1 (.int .i64 (m.calls + 1))).set3 (.bool false)) rfl hm9 hlo hhi
          refine WldIn.set (m' := m.tick) e2 (o := 2) (u := .int .i64 (m.left - 1)) (by rw [ht.out]; unfold Wld.tick; rw [if_neg (by simp [hd, hl0]), if_pos hp]; exact hb) rfl (by unfold Wld.tick; exact hm9) (by unfold Wld.tick; dsimp only; rw [if_neg (by simp [hd, hl0]), if_pos hp]; omega) (by unfold Wld.tick; dsimp only; rw [if_neg (by simp [hd, hl0]), if_pos hp]; omega)
        have hbut : But [b] w (((w.setCell ⟨b, 1, none⟩ (.int .i64 (m.calls + 1))).setCell ⟨b, 3, none⟩ (.bool false)).setCell ⟨b, 2, none⟩ (.int .i64 (m.left - 1))) :=
          ((But.of_set (F := [b]) _ (by simp)).trans (But.of_set (F := [b]) _ (by simp)) (by simp)).trans (But.of_set (F := [b]) _ (by simp)) (by simp)
        have g1 := ((h.box.set1 (.int .i64 (m.calls + 1))).set3 (.bool false)).cells
        obtain ⟨y0, y1, y2, y3⟩ := g1
        (obtain ⟨A, n, c, rfl⟩ : ∃ A m c, V = .slice A m c := by obtain ⟨A, c, e⟩ := Owns.form h.own; exact ⟨A, _, c, e⟩
         have hn : n = m.stores.length := by rw [← h.len]; exact (Owns.row (k := 2) (fun x => oneE.len x) h.own).1.symm
         obtain ⟨s, u, q, hx, hq, hst⟩ := e2.at_ (i := k) hk
         obtain ⟨b0, off, pr, rfl, hb0, hpr, o0, o1⟩ := (Owns.row (k := 2) (fun x => oneE.len x) e2.own).one (i := k) (by omega)
         obtain rfl : pr = (q, u) := by rw [hq] at hpr; exact (Option.some.inj hpr).symm
         obtain ⟨z0, z1, z2, z3⟩ := e2.box.cells
         have hWt := Lib.hid (show WldAt _ b (wBlocks b (.slice (some ⟨b0, off, none⟩) n c) f m.stores.length) N m.tick from ⟨_, l, f, rfl, e2⟩)
         have hD := hdo _ q (f k) s u hbut (by rw [hkt]; exact hx) hst (fun x hxf => mem_wBlocks.2 (.inr (.inr ⟨k, hk, hxf⟩)))
         have hkn : k < n := by omega
         have hfin : ∀ w', StoTo q (f k) M (g s) _ w' → WldTo b (wBlocks b (.slice (some ⟨b0, off, none⟩) n c) f m.stores.length) M (m.tick.put k (g s)) w w' := fun w' hto => by
           obtain ⟨f', r1, r2, r3⟩ := e2.call hx hq hto hM hM9
           refine ⟨_, ⟨_, l, f', by rw [show (m.tick.put k (g s)).stores.length = m.stores.length from by simp [Wld.put, Wld.tick]], r1⟩, (hbut.more (by intro x hx; simp at hx; subst hx; exact mem_wBlocks.2 (.inl rfl))).trans r2 (fun x hx => .inl (mem_wBlocks.2 (.inr (.inr ⟨k, hk, hx⟩)))), fun x hx => ?_⟩
           rcases r3 x hx with e | e
           · exact .inl e
           · exact .inr (by simpa using e)
         have hxm : m.stores[(k : Int).toNat]? = some (s, u) := hx
         replace hfin := Lib.hid hfin
         replace hxm := Lib.hid hxm
         replace hbut := Lib.hid hbut
         replace hh := Lib.hid hh
         replace hD := Lib.hid hD
         replace hn := Lib.hid hn
         replace hd := Lib.hid hd
         replace hl0 := Lib.hid hl0
         clear h e2 hx hq hst hpr
         go_enter Try.func94, Try.ntmps94
         go_wp2_with fail
         refine hH.mono ?_
         rintro e w1 ⟨rfl, rfl⟩
         go_wp2_with fail
         refine hD.out.mono ?_
         rintro e w' ⟨⟨v, z, rfl, hR⟩, hto⟩
         have hf2 := hfin.out _ hto
         clear hfin hto
         go_wp2_with fail
         go_ret2
         exact .inr (.inr ⟨hh.out, ht.out, s, u, v, z, _, hxm.out, hbut.out, hWt.out, rfl, hR, hf2⟩))
      · have hlm : m.left < 0 := by omega
        have e2 : WldIn ((w.setCell ⟨b, 1, none⟩ (.int .i64 (m.calls + 1))).setCell ⟨b, 3, none⟩ (.bool false)) b V l f N m.tick := by
          have e1 := WldIn.set (m' := { m with calls := m.calls + 1 }) h (h.box.set1 (.int .i64 (m.calls + 1))) rfl hm9 hlo hhi
          have hb := (h.box.set1 (.int .i64 (m.calls + 1))).set3 (.bool false)
          refine WldIn.set (m' := m.tick) e1 (o := 3) (u := .bool false) (by rw [ht.out]; unfold Wld.tick; rw [if_neg (by simp [hd, hl0]), if_neg hp]; exact hb) rfl (by unfold Wld.tick; exact hm9) (by unfold Wld.tick; dsimp only; rw [if_neg (by simp [hd, hl0]), if_neg hp]; omega) (by unfold Wld.tick; dsimp only; rw [if_neg (by simp [hd, hl0]), if_neg hp]; omega)
        have hbut : But [b] w ((w.setCell ⟨b, 1, none⟩ (.int .i64 (m.calls + 1))).setCell ⟨b, 3, none⟩ (.bool false)) :=
          (But.of_set (F := [b]) _ (by simp)).trans (But.of_set (F := [b]) _ (by simp)) (by simp)
        have g1 := ((h.box.set1 (.int .i64 (m.calls + 1))).set3 (.bool false)).cells
        obtain ⟨y0, y1, y2, y3⟩ := g1
        (obtain ⟨A, n, c, rfl⟩ : ∃ A m c, V = .slice A m c := by obtain ⟨A, c, e⟩ := Owns.form h.own; exact ⟨A, _, c, e⟩
         have hn : n = m.stores.length := by rw [← h.len]; exact (Owns.row (k := 2) (fun x => oneE.len x) h.own).1.symm
         obtain ⟨s, u, q, hx, hq, hst⟩ := e2.at_ (i := k) hk
         obtain ⟨b0, off, pr, rfl, hb0, hpr, o0, o1⟩ := (Owns.row (k := 2) (fun x => oneE.len x) e2.own).one (i := k) (by omega)
         obtain rfl : pr = (q, u) := by rw [hq] at hpr; exact (Option.some.inj hpr).symm
         obtain ⟨z0, z1, z2, z3⟩ := e2.box.cells
         have hWt := Lib.hid (show WldAt _ b (wBlocks b (.slice (some ⟨b0, off, none⟩) n c) f m.stores.length) N m.tick from ⟨_, l, f, rfl, e2⟩)
         have hD := hdo _ q (f k) s u hbut (by rw [hkt]; exact hx) hst (fun x hxf => mem_wBlocks.2 (.inr (.inr ⟨k, hk, hxf⟩)))
         have hkn : k < n := by omega
         have hfin : ∀ w', StoTo q (f k) M (g s) _ w' → WldTo b (wBlocks b (.slice (some ⟨b0, off, none⟩) n c) f m.stores.length) M (m.tick.put k (g s)) w w' := fun w' hto => by
           obtain ⟨f', r1, r2, r3⟩ := e2.call hx hq hto hM hM9
           refine ⟨_, ⟨_, l, f', by rw [show (m.tick.put k (g s)).stores.length = m.stores.length from by simp [Wld.put, Wld.tick]], r1⟩, (hbut.more (by intro x hx; simp at hx; subst hx; exact mem_wBlocks.2 (.inl rfl))).trans r2 (fun x hx => .inl (mem_wBlocks.2 (.inr (.inr ⟨k, hk, hx⟩)))), fun x hx => ?_⟩
           rcases r3 x hx with e | e
           · exact .inl e
           · exact .inr (by simpa using e)
         have hxm : m.stores[(k : Int).toNat]? = some (s, u) := hx
         replace hfin := Lib.hid hfin
         replace hxm := Lib.hid hxm
         replace hbut := Lib.hid hbut
         replace hh := Lib.hid hh
         replace hD := Lib.hid hD
         replace hn := Lib.hid hn
         replace hd := Lib.hid hd
         replace hl0 := Lib.hid hl0
         clear h e2 hx hq hst hpr
         go_enter Try.func94, Try.ntmps94
         go_wp2_with fail
         refine hH.mono ?_
         rintro e w1 ⟨rfl, rfl⟩
         go_wp2_with fail
         refine hD.out.mono ?_
         rintro e w' ⟨⟨v, z, rfl, hR⟩, hto⟩
         have hf2 := hfin.out _ hto
         clear hfin hto
         go_wp2_with fail
         go_ret2
         exact .inr (.inr ⟨hh.out, ht.out, s, u, v, z, _, hxm.out, hbut.out, hWt.out, rfl, hR, hf2⟩))
end Go.Proofs.Ytfkonpmnclknaaa
/-
  Get, List, Put, Del, Sync of a world.
-/
namespace Go.Proofs.Ytfkonpmnclknaaa
open Go.RowKit
attribute [local go_sem ↓] Go.wp_at_zero Go.wp_at_succ

/-- What a call answers; what it makes of the world. -/
def Wld.ans {α : Type} (m : Wld) (i : Int) (z : Int → α) (r : Sto → α) : α := if m.has i = true then (if m.tick.dark = true then z 56 else match m.stores[i.toNat]? with
  | some p => r p.1
  | none => z 0) else z 1
def Wld.go (m : Wld) (i : Int) (g : Sto → Sto) : Wld := if m.has i = true then (if m.tick.dark = true then m.tick else match m.stores[i.toNat]? with
  | some p => m.tick.put i.toNat (g p.1)
  | none => m.tick) else m
theorem go_no {m : Wld} {i : Int} {g : Sto → Sto} (h : m.has i = false) : m.go i g = m := by unfold Wld.go; rw [h]; rfl
theorem go_dark {m : Wld} {i : Int} {g : Sto → Sto} (h : m.has i = true) (hd : m.tick.dark = true) : m.go i g = m.tick := by unfold Wld.go; rw [if_pos h, if_pos hd]
theorem go_on {m : Wld} {i : Int} {g : Sto → Sto} {s : Sto} {u : Bool} (h : m.has i = true) (hd : m.tick.dark = false) (hx : m.stores[i.toNat]? = some (s, u)) : m.go i g = m.tick.put i.toNat (g s) := by unfold Wld.go; rw [if_pos h, hd, hx]; rfl
theorem ans_no {α : Type} {m : Wld} {i : Int} {z : Int → α} {r : Sto → α} (h : m.has i = false) : m.ans i z r = z 1 := by unfold Wld.ans; rw [h]; rfl
theorem ans_dark {α : Type} {m : Wld} {i : Int} {z : Int → α} {r : Sto → α} (h : m.has i = true) (hd : m.tick.dark = true) : m.ans i z r = z 56 := by unfold Wld.ans; rw [if_pos h, if_pos hd]
theorem ans_on {α : Type} {m : Wld} {i : Int} {z : Int → α} {r : Sto → α} {s : Sto} {u : Bool} (h : m.has i = true) (hd : m.tick.dark = false) (hx : m.stores[i.toNat]? = some (s, u)) : m.ans i z r = r s := by unfold Wld.ans; rw [if_pos h, hd, hx]; rfl

theorem StoTo.refl {q N : Nat} {F : List Nat} {s : Sto} {w : World} (h : StoAt w q F N s) : StoTo q F N s w w := StoTo.same h (Below.refl _ _)

theorem world_Get1 (q p N : Nat) (F : List Nat) (s : Sto) (n : ByteArray) (hn : n.size ≤ maxLen) (W : World) (hp : W.cell? ⟨p, 0, none⟩ = some (.string n)) (h : StoAt W q F N s) :
    Calls Try.prog 73 #[.pointer (some ⟨q, 0, none⟩), .pointer (some ⟨p, 0, none⟩)] W fun e w' => e = .returned (.tuple #[.string (s.get n).1, .int .i64 (s.get n).2]) ∧ w' = W := by
  have hG := store_Get q F N s n hn W h
  clear h
  go_enter Try.func73, Try.ntmps73
  go_wp2_with fail
  refine hG.mono ?_
  rintro e w1 ⟨rfl, rfl⟩
  go_wp2_with fail
  go_ret2
  exact ⟨rfl, rfl⟩

def Wld.get (m : Wld) (i : Int) (n : ByteArray) : ByteArray × Int := m.ans i (fun z => (⟨#[]⟩, z)) (·.get n)
theorem world_Get (b N : Nat) (X : List Nat) (m : Wld) (i : Int) (n : ByteArray) (hn : n.size ≤ maxLen) (w : World) (h : WldAt w b X N m) (hN : N ≤ 1000000) (hc : m.calls + 1 ≤ 1000000) :
    Calls Try.prog 29 #[.pointer (some ⟨b, 0, none⟩), .int .i64 i, .string n] w fun e w' => e = .returned (.tuple #[.string (m.get i n).1, .int .i64 (m.get i n).2]) ∧ WldTo b X N (m.go i id) w w' := by
  have hA : Below w.heap.size w (w.alloc (.cells #[.string n] 9)) := (Below.refl _ w).alloc (Nat.le_refl _) _
  have h1 := h.below hA
  have x0 := newCell w #[.string n] 9 (0, 0) 0
  have hbl : b < w.heap.size := h.lt b h.mem
  have hC := world_call_s b N N X m i _ w.heap.size h1 (Nat.le_refl _) hN hc (fun s v z _ _ => v = .string (s.get n).1 ∧ z = .int .i64 (s.get n).2) id (fun W q F s u hB hx hst _ =>
    (world_Get1 q w.heap.size N F s n hn W ((World.cell?_of_block (a := ⟨w.heap.size, 0, none⟩) (hB.block _ (by simp) (by simp; omega))).trans x0) hst).mono fun e W' ⟨he, hw⟩ => ⟨⟨_, _, he, rfl, rfl⟩, by rw [hw]; exact StoTo.refl hst⟩)
  have hsame := Lib.hid (WldTo.same h hA)
  clear h h1
  replace x0 := Lib.hid x0
  go_enter Try.func29, Try.ntmps29
  go_wp2_with fail
  refine hC.mono ?_
  rintro e w2 hans
  have hres : ∃ e', e = .returned e' ∧ e' = .tuple #[.string (m.get i n).1, .int .i64 (m.get i n).2] ∧ WldTo b X N (m.go i id) w w2 := by
    rcases hans with ⟨hh, rfl, hw⟩ | ⟨hh, hd, rfl, hto⟩ | ⟨hh, hd, s, u, v, z, W, hx, hB, _, rfl, ⟨rfl, rfl⟩, hto⟩
    · refine ⟨_, rfl, ?_, ?_⟩
      · unfold Wld.get; rw [ans_no hh]
      · rw [go_no hh, hw]; exact hsame.out
    · refine ⟨_, rfl, ?_, WldTo.ahead hA ?_⟩
      · unfold Wld.get; rw [ans_dark hh hd]
      · rw [go_dark hh hd]; exact hto
    · refine ⟨_, rfl, ?_, WldTo.ahead hA ?_⟩
      · unfold Wld.get; rw [ans_on hh hd hx]
      · rw [go_on hh hd hx]; exact hto
  obtain ⟨e', rfl, rfl, hto⟩ := hres
  clear hans
  go_wp2_with fail
  go_ret2
  exact ⟨rfl, hto⟩

def Wld.list (m : Wld) (i : Int) : List ByteArray × Int := m.ans i (fun z => ([], z)) (·.list)
theorem put_same {m : Wld} {k : Nat} {s : Sto} {u : Bool} (hx : m.stores[k]? = some (s, u)) : m.put k s = m := by
  have h : m.stores.modify k (fun p => (s, p.2)) = m.stores := by
    refine List.ext_getElem? fun j => ?_
    rw [List.getElem?_modify]
    by_cases hj : k = j
    · subst hj
      rw [hx]
      simp
    · cases m.stores[j]? <;> simp [hj]
  unfold Wld.put
  rw [h]
theorem world_List (b N : Nat) (X : List Nat) (m : Wld) (i : Int) (w : World) (h : WldAt w b X N m) (hN : N ≤ 1000000) (hc : m.calls + 1 ≤ 1000000) :
    Calls Try.prog 30 #[.pointer (some ⟨b, 0, none⟩), .int .i64 i] w fun e w' => ∃ v W, e = .returned (.tuple #[v, .int .i64 (m.list i).2]) ∧ WldTo b X N (m.go i id) w W ∧ strE.Own w' W.heap.size v (m.list i).1 ∧ Below W.heap.size W w' := by
  have hC := world_call_l b N N X m i w h (Nat.le_refl _) hN hc (fun s v z W W' => z = .int .i64 s.list.2 ∧ strE.Own W' W.heap.size v s.list.1 ∧ Below W.heap.size W W') id (fun W q F s u hB hx hst _ =>
    (store_List q F N s W hst).mono fun e W' ⟨v, he, ho, hw⟩ => ⟨⟨_, _, he, rfl, ho, hw⟩, StoTo.same hst hw⟩)
  have hsame := Lib.hid (WldTo.same h (Below.refl _ _))
  have hbX := Lib.hid h.mem
  clear h
  go_enter Try.func30, Try.ntmps30
  go_wp2_with fail
  refine hC.mono ?_
  rintro e w2 hans
  have hres : ∃ v W, e = .returned (.tuple #[v, .int .i64 (m.list i).2]) ∧ WldTo b X N (m.go i id) w W ∧ strE.Own w2 W.heap.size v (m.list i).1 ∧ Below W.heap.size W w2 := by
    rcases hans with ⟨hh, rfl, hw⟩ | ⟨hh, hd, rfl, hto⟩ | ⟨hh, hd, s, u, v, z, W, hx, hB, hWt, rfl, ⟨rfl, ho, hbb⟩, hto⟩
    · refine ⟨.slice none 0 0, w2, ?_, ?_, ?_, Below.refl _ _⟩
      rotate_left
      · rw [go_no hh, hw]; exact hsame.out
      · unfold Wld.list; rw [ans_no hh]; exact Owns.nil_
      · unfold Wld.list; rw [ans_no hh]
    · refine ⟨.slice none 0 0, w2, ?_, ?_, ?_, Below.refl _ _⟩
      rotate_left
      · rw [go_dark hh hd]; exact hto
      · unfold Wld.list; rw [ans_dark hh hd]; exact Owns.nil_
      · unfold Wld.list; rw [ans_dark hh hd]
    · refine ⟨v, W, ?_, ?_, ?_, hbb⟩
      rotate_left
      · rw [go_on hh hd hx, show m.tick.put i.toNat (id s) = m.tick from put_same hx]
        exact ⟨X, hWt, hB.more (by intro x hx; simp at hx; subst hx; exact hbX.out), fun x hx => .inl hx⟩
      · unfold Wld.list; rw [ans_on hh hd hx]; exact ho
      · unfold Wld.list; rw [ans_on hh hd hx]
  obtain ⟨v, W, rfl, hto, ho, hbb⟩ := hres
  obtain ⟨A, n, c, rfl⟩ : ∃ A m c, v = .slice A m c := by obtain ⟨A, c, e⟩ := Owns.form ho; exact ⟨A, _, c, e⟩
  replace ho := Lib.hid ho
  clear hans
  go_wp2_with fail
  go_ret2
  exact ⟨_, W, rfl, hto, ho.out, hbb⟩

set_option maxRecDepth 100000 in
theorem world_write1 (q p : Nat) (fid : FuncId) (caps : Array Value) (r : Int) (K : World → Prop) (W : World) (hfid : ∀ (a : Array Value) (W : World), (callFunc fid a).run Try.prog W = .ok (.enter fid a) W) (hp : W.cell? ⟨p, 0, none⟩ = some (.func (.func fid) #[] caps)) (h : Calls Try.prog fid (#[.pointer (some ⟨q, 0, none⟩)] ++ caps) W fun e w' => e = .returned (.int .i64 r) ∧ K w') :
    Calls Try.prog 95 #[.pointer (some ⟨q, 0, none⟩), .pointer (some ⟨p, 0, none⟩)] W fun e w' => e = .returned (.tuple #[.bool true, .int .i64 r]) ∧ K w' := by
  go_enter Try.func95, Try.ntmps95
  go_wp2_with fail
  refine h.mono ?_
  rintro e w1 ⟨rfl, hk⟩
  go_wp2_with fail
  go_ret2
  exact ⟨rfl, hk⟩

def Wld.err (m : Wld) (i : Int) (r : Sto → Int) : Int := m.ans i id r
set_option maxRecDepth 100000 in
theorem world_write (b N M : Nat) (X : List Nat) (m : Wld) (i : Int) (fid : FuncId) (caps : Array Value) (r : Sto → Int) (g : Sto → Sto) (w : World) (h : WldAt w b X N m) (hM : N ≤ M) (hM9 : M ≤ 1000000) (hc : m.calls + 1 ≤ 1000000) (hfid : ∀ (a : Array Value) (W : World), (callFunc fid a).run Try.prog W = .ok (.enter fid a) W)
    (hdo : ∀ W q F s u, But [b] (w.alloc (.cells #[.func (.func fid) #[] caps] 106)) W → m.stores[i.toNat]? = some (s, u) → StoAt W q F N s → (∀ x ∈ F, x ∈ X) → Calls Try.prog fid (#[.pointer (some ⟨q, 0, none⟩)] ++ caps) W fun e w' => e = .returned (.int .i64 (r s)) ∧ StoTo q F M (g s) W w') :
    Calls Try.prog 75 #[.pointer (some ⟨b, 0, none⟩), .int .i64 i, .func (.func fid) #[] caps] w fun e w' => e = .returned (.int .i64 (m.err i r)) ∧ WldTo b X M (m.go i g) w w' := by
  have hA : Below w.heap.size w (w.alloc (.cells #[.func (.func fid) #[] caps] 106)) := (Below.refl _ w).alloc (Nat.le_refl _) _
  have h1 := h.below hA
  have x0 := newCell w #[.func (.func fid) #[] caps] 106 (0, 0) 0
  have hbl : b < w.heap.size := h.lt b h.mem
  have hC := world_call_b b N M X m i _ w.heap.size h1 hM hM9 hc (fun s v z _ _ => v = .bool true ∧ z = .int .i64 (r s)) g (fun W q F s u hB hx hst hF =>
    (world_write1 q w.heap.size fid caps (r s) (fun W' => StoTo q F M (g s) W W') W hfid ((World.cell?_of_block (a := ⟨w.heap.size, 0, none⟩) (hB.block _ (by simp) (by simp; omega))).trans x0) (hdo W q F s u hB hx hst hF)).mono fun e W' ⟨he, hw⟩ => ⟨⟨_, _, he, rfl, rfl⟩, hw⟩)
  have hsame := Lib.hid ((WldTo.same h hA).more hM hM9)
  have hmore := Lib.hid fun w' (k : WldTo b X N m.tick w w') => WldTo.more k hM hM9
  clear h h1 hdo
  replace x0 := Lib.hid x0
  go_enter Try.func75, Try.ntmps75
  go_wp2_with fail
  refine hC.mono ?_
  rintro e w2 hans
  have hres : ∃ B, e = .returned (.tuple #[.bool B, .int .i64 (m.err i r)]) ∧ WldTo b X M (m.go i g) w w2 := by
    rcases hans with ⟨hh, rfl, hw⟩ | ⟨hh, hd, rfl, hto⟩ | ⟨hh, hd, s, u, v, z, W, hx, hB, _, rfl, ⟨rfl, rfl⟩, hto⟩
    · refine ⟨false, ?_, ?_⟩
      · unfold Wld.err; rw [ans_no hh]; rfl
      · rw [go_no hh, hw]; exact hsame.out
    · refine ⟨false, ?_, ?_⟩
      · unfold Wld.err; rw [ans_dark hh hd]; rfl
      · rw [go_dark hh hd]; exact hmore.out _ (WldTo.ahead hA hto)
    · refine ⟨true, ?_, WldTo.ahead hA ?_⟩
      · unfold Wld.err; rw [ans_on hh hd hx]
      · rw [go_on hh hd hx]; exact hto
  obtain ⟨B, rfl, hto⟩ := hres
  clear hans
  go_wp2_with fail
  go_ret
  exact ⟨rfl, hto⟩

theorem world_Put1 (q p N : Nat) (F : List Nat) (s : Sto) (o : Ob) (hn : o.1.size ≤ maxLen) (hd : o.2.size ≤ maxLen) (hN : N + 1 ≤ 1000000) (W : World) (hp : W.cell? ⟨p, 0, none⟩ = some (.string o.1)) (hp1 : W.cell? ⟨p, 1, none⟩ = some (.string o.2)) (h : StoAt W q F N s) :
    Calls Try.prog 76 #[.pointer (some ⟨q, 0, none⟩), .pointer (some ⟨p, 0, none⟩)] W fun e w' => e = .returned (.int .i64 (s.put o).2) ∧ StoTo q F (N + 1) (s.put o).1 W w' := by
  have hG := store_Put q F N s o hn hd hN W h
  clear h
  go_enter Try.func76, Try.ntmps76
  go_wp2_with fail
  refine hG.mono ?_
  rintro e w1 ⟨rfl, h1⟩
  replace h1 := Lib.hid h1
  go_wp2_with fail
  go_ret
  exact ⟨rfl, h1.out⟩
theorem world_Del1 (q p N : Nat) (F : List Nat) (s : Sto) (n : ByteArray) (hn : n.size ≤ maxLen) (hN : N + 1 ≤ 1000000) (W : World) (hp : W.cell? ⟨p, 0, none⟩ = some (.string n)) (h : StoAt W q F N s) :
    Calls Try.prog 78 #[.pointer (some ⟨q, 0, none⟩), .pointer (some ⟨p, 0, none⟩)] W fun e w' => e = .returned (.int .i64 (s.del n).2) ∧ StoTo q F (N + 1) (s.del n).1 W w' := by
  have hG := store_Del q F N s n hn hN W h
  clear h
  go_enter Try.func78, Try.ntmps78
  go_wp2_with fail
  refine hG.mono ?_
  rintro e w1 ⟨rfl, h1⟩
  replace h1 := Lib.hid h1
  go_wp2_with fail
  go_ret
  exact ⟨rfl, h1.out⟩

set_option maxRecDepth 100000 in
theorem world_Put (b N : Nat) (X : List Nat) (m : Wld) (i : Int) (o : Ob) (hn : o.1.size ≤ maxLen) (hd : o.2.size ≤ maxLen) (w : World) (h : WldAt w b X N m) (hN : N + 1 ≤ 1000000) (hc : m.calls + 1 ≤ 1000000) :
    Calls Try.prog 31 #[.pointer (some ⟨b, 0, none⟩), .int .i64 i, .agg #[.string o.1, .string o.2]] w fun e w' => e = .returned (.int .i64 (m.err i fun s => (s.put o).2)) ∧ WldTo b X (N + 1) (m.go i fun s => (s.put o).1) w w' := by
  obtain ⟨n, d⟩ := o
  dsimp only at hn hd ⊢
  have hA : Below w.heap.size w (w.alloc (.cells #[.string n, .string d] 30)) := (Below.refl _ w).alloc (Nat.le_refl _) _
  have h1 := h.below hA
  have x0 := newCell w #[.string n, .string d] 30 (0, 0) 0
  have x1 := newCell w #[.string n, .string d] 30 (0, 0) 1
  have hbl : b < w.heap.size := h.lt b h.mem
  have hC := world_write b N (N + 1) X m i 76 #[.pointer (some ⟨w.heap.size, 0, none⟩)] (fun s => (s.put (n, d)).2) (fun s => (s.put (n, d)).1) _ h1 (Nat.le_succ _) hN hc (fun a W => by kernel_rfl) (fun W q F s u hB hx hst _ =>
    world_Put1 q w.heap.size N F s (n, d) hn hd hN W
      (((World.cell?_of_block (a := ⟨w.heap.size, 0, none⟩) (hB.block _ (by simp; omega) (by simp; omega))).trans (World.cell?_alloc_lt _ _ _ (by simp))).trans x0)
      (((World.cell?_of_block (a := ⟨w.heap.size, 1, none⟩) (hB.block _ (by simp; omega) (by simp; omega))).trans (World.cell?_alloc_lt _ _ _ (by simp))).trans x1) hst)
  clear h h1
  replace x0 := Lib.hid x0
  replace x1 := Lib.hid x1
  go_enter Try.func31, Try.ntmps31
  go_wp2_with fail
  refine hC.mono ?_
  rintro e w2 ⟨rfl, hto⟩
  have hfin := Lib.hid (WldTo.ahead hA hto)
  clear hto
  go_wp2_with fail
  go_ret
  exact ⟨rfl, hfin.out⟩

set_option maxRecDepth 100000 in
theorem world_Del (b N : Nat) (X : List Nat) (m : Wld) (i : Int) (n : ByteArray) (hn : n.size ≤ maxLen) (w : World) (h : WldAt w b X N m) (hN : N + 1 ≤ 1000000) (hc : m.calls + 1 ≤ 1000000) :
    Calls Try.prog 35 #[.pointer (some ⟨b, 0, none⟩), .int .i64 i, .string n] w fun e w' => e = .returned (.int .i64 (m.err i fun s => (s.del n).2)) ∧ WldTo b X (N + 1) (m.go i fun s => (s.del n).1) w w' := by
  have hA : Below w.heap.size w (w.alloc (.cells #[.string n] 9)) := (Below.refl _ w).alloc (Nat.le_refl _) _
  have h1 := h.below hA
  have x0 := newCell w #[.string n] 9 (0, 0) 0
  have hbl : b < w.heap.size := h.lt b h.mem
  have hC := world_write b N (N + 1) X m i 78 #[.pointer (some ⟨w.heap.size, 0, none⟩)] (fun s => (s.del n).2) (fun s => (s.del n).1) _ h1 (Nat.le_succ _) hN hc (fun a W => by kernel_rfl) (fun W q F s u hB hx hst _ =>
    world_Del1 q w.heap.size N F s n hn hN W
      (((World.cell?_of_block (a := ⟨w.heap.size, 0, none⟩) (hB.block _ (by simp; omega) (by simp; omega))).trans (World.cell?_alloc_lt _ _ _ (by simp))).trans x0) hst)
  clear h h1
  replace x0 := Lib.hid x0
  go_enter Try.func35, Try.ntmps35
  go_wp2_with fail
  refine hC.mono ?_
  rintro e w2 ⟨rfl, hto⟩
  have hfin := Lib.hid (WldTo.ahead hA hto)
  clear hto
  go_wp2_with fail
  go_ret
  exact ⟨rfl, hfin.out⟩

set_option maxRecDepth 100000 in
theorem world_Sync (b N : Nat) (X : List Nat) (m : Wld) (i : Int) (w : World) (h : WldAt w b X N m) (hN : N ≤ 1000000) (hc : m.calls + 1 ≤ 1000000) :
    Calls Try.prog 36 #[.pointer (some ⟨b, 0, none⟩), .int .i64 i] w fun e w' => e = .returned (.int .i64 (m.err i fun s => s.sync.2)) ∧ WldTo b X N (m.go i fun s => s.sync.1) w w' := by
  have hC := world_write b N N X m i 53 #[] (fun s => s.sync.2) (fun s => s.sync.1) _ h (Nat.le_refl _) hN hc (fun a W => by kernel_rfl) (fun W q F s u hB hx hst _ => store_Sync q F N s W hst)
  clear h
  go_enter Try.func36, Try.ntmps36
  go_wp2_with fail
  refine hC.mono ?_
  rintro e w2 ⟨rfl, hto⟩
  have hfin := Lib.hid hto
  clear hto
  go_wp2_with fail
  go_ret
  exact ⟨rfl, hfin.out⟩
end Go.Proofs.Ytfkonpmnclknaaa
