/-
  Strike of a world.
-/
import Derived.Test.YtfkonpmnclknaaaWldF
namespace Go.Proofs.Ytfkonpmnclknaaa
open Go.RowKit
attribute [local go_sem ↓] Go.wp_at_zero Go.wp_at_succ

def Wld.strike (m : Wld) (f : Flt) : Wld × Int := if m.has f.store = true then match m.stores[f.store.toNat]? with
  | some p => if (p.1.strike f).2 = 0 then (if f.kind = 5 ∨ f.kind = 7 then (m.put f.store.toNat (p.1.strike f).1, 0) else ((m.put f.store.toNat (p.1.strike f).1).mark f.store.toNat true, 0)) else (m.put f.store.toNat (p.1.strike f).1, (p.1.strike f).2)
  | none => (m, 0) else (m, 1)

set_option maxHeartbeats 4000000 in
set_option maxRecDepth 100000 in
theorem world_Strike (b N : Nat) (X : List Nat) (m : Wld) (ft : Flt) (hf : ft.fit) (hk0 : 0 ≤ ft.kind ∧ ft.kind ≤ 255) (w : World) (h : WldAt w b X N m) (hN : N + 1 ≤ 1000000) :
    Calls Try.prog 33 #[.pointer (some ⟨b, 0, none⟩), ft.agg] w fun e w' => e = .returned (.int .i64 (m.strike ft).2) ∧ WldTo b X (N + 1) (m.strike ft).1 w w' := by
  have hA : Below w.heap.size w (w.alloc ft.box) := (Below.refl _ w).alloc (Nat.le_refl _) _
  have h1 := h.below hA
  obtain ⟨kind, store, fn, fa, fc⟩ := ft
  unfold Flt.box at hA h1
  unfold Flt.agg
  dsimp only at hA h1 hk0 ⊢
  have x0 := newCell w #[.int .u8 kind, .int .i64 store, .int .i64 fn, .int .i64 fa, .int .i64 fc] 33 (0, 0)
  have hz0 : (w.alloc (.cells #[.int .u8 kind, .int .i64 store, .int .i64 fn, .int .i64 fa, .int .i64 fc] 33)).heap.size = w.heap.size + 1 := by simp
  have q0 := x0 0
  have q1 := x0 1
  have q2 := x0 2
  have q3 := x0 3
  have q4 := x0 4
  have hwX : w.heap.size ∉ X := fun hi => by have := h.lt _ hi; omega
  clear x0
  have hH := world_has b N X m store _ h1
  have hsame := Lib.hid ((WldTo.same h hA).more (Nat.le_succ N) hN)
  cases hh : m.has store with
  | false =>
    have hr : Hid (m.strike ⟨kind, store, fn, fa, fc⟩ = (m, 1)) := by unfold Hid Wld.strike; dsimp only; rw [hh]; rfl
    rw [hh] at hH
    replace hh := Lib.hid hh
    clear h h1
    go_enter Try.func33, Try.ntmps33
    go_upto_region 1 with fail
    generalize (w.alloc (.cells #[.int .u8 kind, .int .i64 store, .int .i64 fn, .int .i64 fa, .int .i64 fc] 33)) = w0 at hA q0 q1 q2 q3 q4 hz0 hH hsame ⊢
    simp at q1
    go_wp2_with fail
    refine hH.mono ?_
    rintro e w1 ⟨rfl, rfl⟩
    go_wp2_with fail
    go_ret
    exact ⟨by rw [hr.out]; rfl, by rw [hr.out]; exact hsame.out⟩
  | true =>
    rw [hh] at hH
    obtain ⟨k, hkk, hk, hkt⟩ := has_at hh
    obtain ⟨V, l, f, rfl, hW⟩ := h1
    obtain ⟨g, c, rfl, hfz⟩ := hW.rowForm (by omega)
    obtain ⟨s, u, q, hx, hq, hst⟩ := hW.at_ (i := k) hk
    obtain ⟨b0, off, pr, e0, hb0, hpr, o0, o1⟩ := (Owns.row (k := 2) (fun x => oneE.len x) hW.own).one (i := k) hk
    simp only [Option.some.injEq, Addr.mk.injEq, and_true] at e0
    obtain ⟨rfl, rfl⟩ := e0
    obtain rfl : pr = (q, u) := by rw [hq] at hpr; exact (Option.some.inj hpr).symm
    simp only [Nat.zero_add] at o0 o1
    obtain ⟨z0, _, _, _⟩ := hW.box.cells
    have hgk : g ∉ f k := fun hi => hW.apr k g hk rfl hi
    have hwk : w.heap.size ∉ f k := fun hi => hwX (mem_wBlocks.2 (.inr (.inr ⟨k, hk, hi⟩)))
    have hgl : g < w.heap.size := h.lt g (mem_wBlocks.2 (.inr (.inl rfl)))
    have hS := fun W (hW : StoAt W q (f k) N s) => store_Strike q (f k) N s ⟨kind, store, fn, fa, fc⟩ hf hN W hW
    unfold Flt.agg at hS
    dsimp only at hS
    obtain ⟨s', hs'⟩ : ∃ s', s' = (s.strike ⟨kind, store, fn, fa, fc⟩).1 := ⟨_, rfl⟩
    obtain ⟨r, hr'⟩ : ∃ r, r = (s.strike ⟨kind, store, fn, fa, fc⟩).2 := ⟨_, rfl⟩
    rw [← hs', ← hr'] at hS
    have hres : Hid (m.strike ⟨kind, store, fn, fa, fc⟩ = if r = 0 then (if kind = 5 ∨ kind = 7 then (m.put k s', 0) else ((m.put k s').mark k true, 0)) else (m.put k s', r)) := by
      unfold Hid Wld.strike
      dsimp only
      rw [if_pos hh, hkt, hx]
      dsimp only
      rw [← hs', ← hr']
    obtain ⟨n, hn⟩ : ∃ n, n = m.stores.length := ⟨_, rfl⟩
    have hcall := Lib.hid fun W w' (hWW : WldIn W b (.slice (some ⟨g, 0, none⟩) m.stores.length c) l f N m) (hto : StoTo q (f k) (N + 1) s' W w') => hWW.call hx hq hto (Nat.le_succ N) hN
    have hkn : k < n := by omega
    have hfew : n ≤ 12 := by rw [hn]; exact hW.few
    rw [← hn] at z0
    subst hkk
    replace hW := Lib.hid hW
    replace hs' := Lib.hid hs'
    replace hr' := Lib.hid hr'
    replace hn := Lib.hid hn
    replace hh := Lib.hid hh
    replace hx := Lib.hid hx
    replace hq := Lib.hid hq
    replace hpr := Lib.hid hpr
    clear h hkt hb0 hfz
    have hd : Below (w.alloc (.cells #[.int .u8 kind, .int .i64 k, .int .i64 fn, .int .i64 fa, .int .i64 fc] 33)).heap.size (w.alloc (.cells #[.int .u8 kind, .int .i64 k, .int .i64 fn, .int .i64 fa, .int .i64 fc] 33)) (w.alloc (.cells #[.int .u8 kind, .int .i64 k, .int .i64 fn, .int .i64 fa, .int .i64 fc] 33)).drew := (Below.refl _ _).drew
    go_enter Try.func33, Try.ntmps33
    go_upto_region 1 with fail
    generalize (w.alloc (.cells #[.int .u8 kind, .int .i64 k, .int .i64 fn, .int .i64 fa, .int .i64 fc] 33)) = w0 at hA q0 q1 q2 q3 q4 hz0 hH hsame hW hst o0 o1 z0 hd ⊢
    simp at q0 q1 q2 q3 q4
    go_wp2_with fail
    refine hH.mono ?_
    rintro e w1 ⟨rfl, rfl⟩
    go_wp2_with fail
    go_quiet (fail)
    go_upto_region 6 with fail
    refine region_held_tail 5 (fun W : World => W.cell? ⟨g, k * 2, none⟩ = some (.pointer (some ⟨q, 0, none⟩)) ∧ W.cell? ⟨w.heap.size, 0, none⟩ = some (.int .u8 kind) ∧ W.cell? ⟨w.heap.size, 1, none⟩ = some (.int .i64 k) ∧ W.cell? ⟨w.heap.size, 2, none⟩ = some (.int .i64 fn) ∧ W.cell? ⟨w.heap.size, 3, none⟩ = some (.int .i64 fa) ∧ W.cell? ⟨w.heap.size, 4, none⟩ = some (.int .i64 fc)) (by kernel_rfl) (by kernel_rfl) ?_
    have hHeld : (fun W : World => W.cell? ⟨g, k * 2, none⟩ = some (.pointer (some ⟨q, 0, none⟩)) ∧ W.cell? ⟨w.heap.size, 0, none⟩ = some (.int .u8 kind) ∧ W.cell? ⟨w.heap.size, 1, none⟩ = some (.int .i64 k) ∧ W.cell? ⟨w.heap.size, 2, none⟩ = some (.int .i64 fn) ∧ W.cell? ⟨w.heap.size, 3, none⟩ = some (.int .i64 fa) ∧ W.cell? ⟨w.heap.size, 4, none⟩ = some (.int .i64 fc)) (w1.drewN nq).drew := ⟨o0, q0, q1, q2, q3, q4⟩
    (refine HT.takeL (i := 0) (v := ?_) rfl (by kernel_rfl) (fun _ _ _ h => h) (Or.inl ⟨by rfl, ?_⟩) (by assumption) ?_
     rotate_left
     · (intro w hSw; (try dsimp only at hSw); go_simp; (try with_reducible rfl))
     try simp only [Act.put, List.setIfInBounds_toArray, List.set_cons_zero, List.set_cons_succ])
    (refine HT.takeL (i := 1) (v := ?_) rfl (by kernel_rfl) (fun _ _ _ h => h) (Or.inl ⟨by rfl, ?_⟩) (by assumption) ?_
     rotate_left
     · (intro w hSw; (try dsimp only at hSw); go_simp; (try with_reducible rfl))
     try simp only [Act.put, List.setIfInBounds_toArray, List.set_cons_zero, List.set_cons_succ])
    (refine HT.takeL (i := 2) (v := ?_) rfl (by kernel_rfl) (fun _ _ _ h => h) (Or.inl ⟨by rfl, ?_⟩) (by assumption) ?_
     rotate_left
     · (intro w hSw; (try dsimp only at hSw); go_simp; (try with_reducible rfl))
     try simp only [Act.put, List.setIfInBounds_toArray, List.set_cons_zero, List.set_cons_succ])
    (refine HT.takeL (i := 3) (v := ?_) rfl (by kernel_rfl) (fun _ _ _ h => h) (Or.inl ⟨by rfl, ?_⟩) (by assumption) ?_
     rotate_left
     · (intro w hSw; (try dsimp only at hSw); go_simp; (try with_reducible rfl))
     try simp only [Act.put, List.setIfInBounds_toArray, List.set_cons_zero, List.set_cons_succ])
    (refine HT.takeL (i := 4) (v := ?_) rfl (by kernel_rfl) (fun _ _ _ h => h) (Or.inl ⟨by rfl, ?_⟩) (by assumption) ?_
     rotate_left
     · (intro w hSw; (try dsimp only at hSw); go_simp; (try with_reducible rfl))
     try simp only [Act.put, List.setIfInBounds_toArray, List.set_cons_zero, List.set_cons_succ])
    refine HT.tail (by kernel_rfl) ?_
    simp only [List.drop_succ_cons, List.drop_zero]
    have hS2 := hS _ (hst.block (w' := (w1.drewN nq).drew) fun _ _ => rfl)
    have hW2 := Lib.hid (hW.out.block (w' := (w1.drewN nq).drew) fun _ _ => rfl)
    have hA2 : Below w.heap.size w (w1.drewN nq).drew := hA.trans (((below_drewN (Below.refl w1.heap.size w1) nq).drew).mono (by omega))
    have hz2 : (w1.drewN nq).drew.heap.size = w.heap.size + 1 := hz0
    generalize (w1.drewN nq).drew = w2 at hS2 hW2 hHeld hA2 hz2 ⊢
    clear hS hW hst o0 o1 z0 q0 q1 q2 q3 q4 hA hz0 hH hd
    obtain ⟨_, p0, _, _, _, _⟩ := hHeld
    go_wp2_with fail
    refine hS2.mono ?_
    rintro e w3 ⟨rfl, hto⟩
    obtain ⟨f', r1, r2, r3⟩ := hcall.out _ _ hW2.out hto
    have p3 : w3.cell? ⟨w.heap.size, 0, none⟩ = some (.int .u8 kind) := (World.cell?_of_block (a := ⟨w.heap.size, 0, none⟩) (r2.block _ (by show w.heap.size < _; omega) hwk)).trans p0
    have hml : (m.put k s').stores.length = m.stores.length := by simp [Wld.put]
    have hto3 : WldTo b (wBlocks b (.slice (some ⟨g, 0, none⟩) m.stores.length c) f m.stores.length) (N + 1) (m.put k s') w w3 := by
      refine WldTo.ahead hA2 ⟨_, ⟨_, l, f', rfl, r1⟩, r2.more (fun x hx => mem_wBlocks.2 (.inr (.inr ⟨k, hk, hx⟩))), fun x hx => ?_⟩
      rw [hml] at hx
      exact r3 x hx
    clear hS2 hcall hto p0
    by_cases hz : r = 0
    · subst hz
      by_cases h5 : kind = 5
      · subst h5
        have hr2 : Hid (m.strike ⟨5, k, fn, fa, fc⟩ = (m.put k s', 0)) := by unfold Hid; rw [hres.out]; rfl
        replace r1 := Lib.hid r1
        go_wp2_with fail
        go_ret
        exact ⟨by rw [hr2.out]; rfl, by rw [hr2.out]; exact hto3⟩
      · by_cases h7 : kind = 7
        · subst h7
          have hr2 : Hid (m.strike ⟨7, k, fn, fa, fc⟩ = (m.put k s', 0)) := by unfold Hid; rw [hres.out]; rfl
          replace r1 := Lib.hid r1
          go_wp2_with fail
          go_ret
          exact ⟨by rw [hr2.out]; rfl, by rw [hr2.out]; exact hto3⟩
        · have hr2 : Hid (m.strike ⟨kind, k, fn, fa, fc⟩ = ((m.put k s').mark k true, 0)) := by unfold Hid; rw [hres.out, if_pos rfl, if_neg (by simp [h5, h7])]
          have i5 : (kind != 5) = true := by simpa using h5
          have i7 : (kind != 7) = true := by simpa using h7
          obtain ⟨g', c', e1, hfk⟩ := r1.rowForm (by rw [hml]; omega)
          simp only [Value.slice.injEq, Option.some.injEq, Addr.mk.injEq, and_true, true_and] at e1
          obtain ⟨rfl, e2, rfl⟩ := e1
          clear e2
          obtain ⟨s9, u9, q9, hx9, hq9, hst9⟩ := r1.at_ (i := k) (by rw [hml]; exact hk)
          obtain ⟨b9, off9, pr9, e9, hb9, hpr9, y0, y1⟩ := (Owns.row (k := 2) (fun x => oneE.len x) r1.own).one (i := k) hk
          simp only [Option.some.injEq, Addr.mk.injEq, and_true] at e9
          obtain ⟨rfl, rfl⟩ := e9
          simp only [Nat.zero_add] at y0 y1
          have hfg := hfk (k * 2 + 1)
          have hmk := Lib.hid (r1.mark hx9 hq9 true)
          have hbut : But (wBlocks b (.slice (some ⟨g, 0, none⟩) m.stores.length c) f m.stores.length) w (w3.setCell ⟨g, k * 2 + 1, none⟩ (.bool true)) := by
            obtain ⟨_, _, k2, _⟩ := hto3
            exact k2.trans (But.of_set (F := [g]) _ (by simp)) (by intro x hx; simp at hx; subst hx; exact .inl (mem_wBlocks.2 (.inr (.inl rfl))))
          have hnew := Lib.hid r3
          have hzz := hA2.size
          replace r1 := Lib.hid r1
          replace hbut := Lib.hid hbut
          replace hpr9 := Lib.hid hpr9
          replace hx9 := Lib.hid hx9
          replace hq9 := Lib.hid hq9
          clear hto3 hst9 hb9 r2 r3 hml
          go_wp2_with fail
          go_ret
          refine ⟨by rw [hr2.out]; rfl, ?_⟩
          rw [hr2.out]
          refine ⟨_, ⟨_, _, f', rfl, hmk.out⟩, hbut.out, fun x hx => ?_⟩
          rw [show ((m.put k s').mark k true).stores.length = m.stores.length from by simp [Wld.put, Wld.mark]] at hx
          exact (hnew.out x hx).imp id fun e => Nat.le_trans hzz e
    · have hr2 : Hid (m.strike ⟨kind, k, fn, fa, fc⟩ = (m.put k s', r)) := by unfold Hid; rw [hres.out, if_neg hz]
      have i0 : (r != 0) = true := by simpa using hz
      replace hz := Lib.hid hz
      replace r1 := Lib.hid r1
      go_wp2_with fail
      go_ret
      exact ⟨by rw [hr2.out]; rfl, by rw [hr2.out]; exact hto3⟩
end Go.Proofs.Ytfkonpmnclknaaa
/-
  Crash of a world.
-/
namespace Go.Proofs.Ytfkonpmnclknaaa
open Go.RowKit
attribute [local go_sem ↓] Go.wp_at_zero Go.wp_at_succ

/-- What survives: a slice of numbers. -/
structure Surv where
  A : Option Addr
  n : Nat
  c : Nat
  keep : List Int
def survCells (x : Surv) : List Value := [.slice x.A x.n x.c]
abbrev SurvsAt := RowAt 1 survCells
theorem RowAt.surv {w : World} {B n : Nat} {A : Option Addr} {l : List Surv} (h : SurvsAt w B A n l) {i : Nat} (hi : i < n) : ∃ b off x, A = some ⟨b, off, none⟩ ∧ b < B ∧ l[i]? = some x ∧ w.cell? ⟨b, off + i, none⟩ = some (.slice x.A x.n x.c) := by
  obtain ⟨hl, _, hc⟩ := h
  obtain ⟨b, off, e, hb, hc⟩ := hc (by omega)
  have hx : l[i]? = some (l[i]'(by omega)) := List.getElem?_eq_getElem (by omega)
  exact ⟨b, off, _, e, hb, hx, by simpa using hc i _ hx 0 _ rfl⟩

def Wld.crashTo (m : Wld) (ks : List (List Int)) (k : Nat) : Wld := { m with stores := m.stores.mapIdx fun i p => if i < k then (p.1.crash (ks.getD i []), p.2) else p }
def Wld.crash (m : Wld) (ks : List (List Int)) : Wld := { m.crashTo ks m.stores.length with left := -1, dark := false }
theorem crashTo_at (m : Wld) (ks : List (List Int)) (k j : Nat) : (m.crashTo ks k).stores[j]? = (m.stores[j]?).map fun p => if j < k then (p.1.crash (ks.getD j []), p.2) else p := by
  unfold Wld.crashTo
  rw [List.getElem?_mapIdx]
theorem crashTo_zero (m : Wld) (ks : List (List Int)) : m.crashTo ks 0 = m := Wld.ext' (fun j => by rw [crashTo_at]; cases m.stores[j]? <;> simp) rfl rfl rfl
theorem crashTo_len (m : Wld) (ks : List (List Int)) (k : Nat) : (m.crashTo ks k).stores.length = m.stores.length := by simp [Wld.crashTo]
theorem crashTo_succ {m : Wld} {ks : List (List Int)} {k : Nat} {s : Sto} {u : Bool} {kp : List Int} (hx : (m.crashTo ks k).stores[k]? = some (s, u)) (hk : ks.getD k [] = kp) : (m.crashTo ks k).put k (s.crash kp) = m.crashTo ks (k + 1) := Wld.ext' (fun j => by
  rw [put_at, crashTo_at, crashTo_at]
  rw [crashTo_at] at hx
  by_cases hj : k = j
  · subst hj
    cases hm : m.stores[k]? with
    | none => rw [hm] at hx; simp at hx
    | some p =>
      obtain ⟨p1, p2⟩ := p
      rw [hm] at hx
      simp only [Nat.lt_irrefl, if_false, Option.map_some, Option.some.injEq, Prod.mk.injEq] at hx
      obtain ⟨rfl, rfl⟩ := hx
      simp only [Option.map_some, Nat.lt_irrefl, if_false, if_true, Nat.lt_succ_self, hk]
  · cases m.stores[j]? with
    | none => rfl
    | some p =>
      have : (j < k) ↔ (j < k + 1) := by omega
      simp [hj, this]) rfl rfl rfl

set_option maxHeartbeats 4000000 in
set_option maxRecDepth 100000 in
theorem world_Crash (b N : Nat) (X : List Nat) (m : Wld) (A : Option Addr) (nl c : Nat) (ks : List Surv) (B : Nat) (w : World) (h : WldAt w b X N m) (hs : SurvsAt w B A nl ks) (hk : ∀ x ∈ ks, IntsAt w B x.A x.n x.keep) (hB : B ≤ w.heap.size) (hlo : ∀ x ∈ X, B ≤ x) (hne : 0 < m.stores.length) :
    Calls Try.prog 37 #[.pointer (some ⟨b, 0, none⟩), .slice A nl c] w fun e w' => e = .returned (.int .i64 0) ∧ WldTo b X N (m.crash (ks.map Surv.keep)) w w' := by
  obtain ⟨V, l, f, rfl, h⟩ := h
  obtain ⟨g, cc, rfl, hfz⟩ := h.rowForm hne
  obtain ⟨z0, _, _, _⟩ := h.box.cells
  have hW0 : WldIn w b (.slice (some ⟨g, 0, none⟩) m.stores.length cc) l f N (m.crashTo (ks.map Surv.keep) 0) := by rw [crashTo_zero]; exact h
  have hfew := h.few
  have hnl : Hid (ks.length = nl) := hs.1
  have hbut0 : But (wBlocks b (.slice (some ⟨g, 0, none⟩) m.stores.length cc) f m.stores.length) w w := But.refl _ _
  have hlo2 := fun w' (k : But (wBlocks b (.slice (some ⟨g, 0, none⟩) m.stores.length cc) f m.stores.length) w w') => k.below hB hlo
  have hnew0 : ∀ x ∈ wBlocks b (.slice (some ⟨g, 0, none⟩) m.stores.length cc) f m.stores.length, x ∈ wBlocks b (.slice (some ⟨g, 0, none⟩) m.stores.length cc) f m.stores.length ∨ w.heap.size ≤ x := fun x hx => .inl hx
  have hbX : b ∈ wBlocks b (.slice (some ⟨g, 0, none⟩) m.stores.length cc) f m.stores.length := mem_wBlocks.2 (.inl rfl)
  obtain ⟨n, hn⟩ : ∃ n, n = m.stores.length := ⟨_, rfl⟩
  rw [← hn] at z0 hW0 hfew hbut0 hlo2 hnew0 hbX
  generalize hX : wBlocks b (.slice (some ⟨g, 0, none⟩) n cc) f n = X at hbut0 hlo2 hnew0 hbX
  have hnn : Hid (∀ k, (m.crashTo (ks.map Surv.keep) k).stores.length = n) := by unfold Hid; intro k; rw [crashTo_len, hn]
  have hfin : Hid (∀ w', WldTo b X N (m.crash (ks.map Surv.keep)) w w' → WldTo b (wBlocks b (.slice (some ⟨g, 0, none⟩) m.stores.length cc) f m.stores.length) N (m.crash (ks.map Surv.keep)) w w') := by unfold Hid; intro w' k; rw [← hn, hX]; exact k
  replace hlo2 := Lib.hid hlo2
  replace hk := Lib.hid hk
  replace hn := Lib.hid hn
  replace hX := Lib.hid hX
  clear h hfz hne hlo
  go_enter Try.func37, Try.ntmps37
  go_wp2_with fail
  go_loopw [5, 6, 7, 15] (fun _ _ _ ti wr => ∃ (k : Nat) (f' : Nat → List Nat), k ≤ n ∧ ti = .int .i64 k ∧ WldIn wr b (.slice (some ⟨g, 0, none⟩) n cc) l f' N (m.crashTo (ks.map Surv.keep) k) ∧ But X w wr ∧ Hid (∀ x ∈ wBlocks b (.slice (some ⟨g, 0, none⟩) n cc) f' n, x ∈ X ∨ w.heap.size ≤ x)) (fun _ _ _ ti _ => n - (intOf ti).toNat)
  case atStart => exact ⟨0, f, Nat.zero_le _, rfl, hW0, hbut0, by unfold Hid; rw [hX.out]; exact hnew0⟩
  case round =>
    obtain ⟨k, f', hkn, rfl, hW, hbr, hnw⟩ := hrel
    obtain ⟨wp, rfl⟩ : ∃ x : World, x = wr := ⟨_, rfl⟩
    have hBw := hlo2.out _ hbr
    have hBz : B ≤ wp.heap.size := Nat.le_trans hB hBw.size
    by_cases hlt : k < n
    · obtain ⟨s, u, q, hx, hq, hst⟩ := hW.at_ (i := k) (by rw [hnn.out]; exact hlt)
      obtain ⟨b0, off, pr, e0, hb0, hpr, o0, o1⟩ := (Owns.row (k := 2) (fun x => oneE.len x) hW.own).one (i := k) hlt
      simp only [Option.some.injEq, Addr.mk.injEq, and_true] at e0
      obtain ⟨rfl, rfl⟩ := e0
      obtain rfl : pr = (q, u) := by rw [hq] at hpr; exact (Option.some.inj hpr).symm
      simp only [Nat.zero_add] at o0 o1
      have hal : Below wp.heap.size wp (wp.alloc (.cells #[.pointer (some ⟨q, 0, none⟩), .bool u] 100)) := (Below.refl _ _).alloc (Nat.le_refl _) _
      have hWa := hW.block fun x hx => hal.block x (hW.lt x hx)
      have hsa := hst.below hal
      have hzw := hbr.size
      have hstep := Lib.hid fun kp w' (hkp : (ks.map Surv.keep).getD k [] = kp) (hto : StoTo q (f' k) N (s.crash kp) (wp.alloc (.cells #[.pointer (some ⟨q, 0, none⟩), .bool u] 100)) w') => show ∃ f'', WldIn w' b (.slice (some ⟨g, 0, none⟩) n cc) l f'' N (m.crashTo (ks.map Surv.keep) (k + 1)) ∧ But X w w' ∧ Hid (∀ x ∈ wBlocks b (.slice (some ⟨g, 0, none⟩) n cc) f'' n, x ∈ X ∨ w.heap.size ≤ x) by
        have hc9 : N ≤ 1000000 := by
          obtain ⟨_, _, _, _, h9⟩ := hst
          exact h9.cap
        obtain ⟨f2, r1, r2, r3⟩ := hWa.call hx hq hto (Nat.le_refl _) hc9
        rw [crashTo_succ hx hkp] at r1
        have hfk : ∀ x ∈ f' k, x ∈ X ∨ w.heap.size ≤ x := fun x hx => hnw.out x (mem_wBlocks.2 (.inr (.inr ⟨k, hlt, hx⟩)))
        refine ⟨f2, r1, (hbr.trans (But.of_below (F := []) hal) (by simp)).trans r2 hfk, fun x hx => ?_⟩
        rw [hnn.out] at r3
        rcases r3 x hx with e | e
        · exact hnw.out x e
        · refine .inr (Nat.le_trans hzw (Nat.le_trans hal.size e))
      have hal2 := Lib.hid (hBw.trans (hal.mono hBz))
      replace hpr := Lib.hid hpr
      replace hq := Lib.hid hq
      replace hx := Lib.hid hx
      replace hW := Lib.hid hW
      replace hWa := Lib.hid hWa
      clear hst hb0
      by_cases hkl : k < nl
      · obtain ⟨b1, off1, x, rfl, hb1, hx1, y0⟩ := (hs.below hBw).surv hkl
        have hkp : Hid ((ks.map Surv.keep).getD k [] = x.keep) := by unfold Hid; rw [List.getD_eq_getElem?_getD, List.getElem?_map, hx1]; rfl
        have hci := store_Crash q (f' k) N s x.A x.n x.c x.keep _ hsa (((hk.out x (List.mem_of_getElem? hx1)).below hal2.out).more (Nat.le_trans hBz hal.size))
        have hb1w : b1 < wp.heap.size := by omega
        replace hx1 := Lib.hid hx1
        clear hsa hal
        go_wp2_with fail
        refine hci.mono ?_
        rintro e w1 ⟨rfl, hto⟩
        obtain ⟨f2, r1, r2, r3⟩ := hstep.out x.keep w1 hkp.out hto
        clear hstep hci hto
        go_wp2_with fail
        go_roundw
        case rel => exact ⟨k + 1, f2, by omega, by go_num, r1, r2, r3⟩
        case measure => simp [intOf]; omega
      · have hkp : Hid ((ks.map Surv.keep).getD k [] = []) := by
          unfold Hid
          rw [List.getD_eq_getElem?_getD, List.getElem?_eq_none (by rw [List.length_map]; have := hnl.out; omega)]
          rfl
        have hci := store_Crash q (f' k) N s none 0 0 [] _ hsa (IntsAt.none_ _)
        clear hsa hal
        go_wp2_with fail
        refine hci.mono ?_
        rintro e w1 ⟨rfl, hto⟩
        obtain ⟨f2, r1, r2, r3⟩ := hstep.out [] w1 hkp.out hto
        clear hstep hci hto
        go_wp2_with fail
        go_roundw
        case rel => exact ⟨k + 1, f2, by omega, by go_num, r1, r2, r3⟩
        case measure => simp [intOf]; omega
    · obtain rfl : k = n := by omega
      obtain ⟨y0, y1, y2, y3⟩ := hW.box.cells
      have g2 := hW.box.frozen 2
      have g3 := hW.box.frozen 3
      have hfi : Hid (WldTo b X N (m.crash (ks.map Surv.keep)) w ((wp.setCell ⟨b, 2, none⟩ (.int .i64 (-1))).setCell ⟨b, 3, none⟩ (.bool false))) := by
        have e1 := WldIn.set (m' := { m.crashTo (ks.map Surv.keep) k with left := -1 }) hW (o := 2) (u := .int .i64 (-1)) (hW.box.set2 _) rfl hW.calls (by dsimp only; omega) (by dsimp only; omega)
        have e2 := WldIn.set (m' := { m.crashTo (ks.map Surv.keep) k with left := -1, dark := false }) e1 (o := 3) (u := .bool false) ((hW.box.set2 _).set3 _) rfl hW.calls (by dsimp only; omega) (by dsimp only; omega)
        have hcr : m.crash (ks.map Surv.keep) = { m.crashTo (ks.map Surv.keep) k with left := -1, dark := false } := by unfold Wld.crash; rw [← hn.out]
        rw [hcr]
        refine ⟨_, ⟨_, l, f', rfl, e2⟩, (hbr.trans (But.of_set (F := [b]) _ (by simp)) (by intro i hi; simp at hi; subst hi; exact .inl hbX)).trans (But.of_set (F := [b]) _ (by simp)) (by intro i hi; simp at hi; subst hi; exact .inl hbX), fun x hx => ?_⟩
        rw [show ({ m.crashTo (ks.map Surv.keep) k with left := -1, dark := false } : Wld).stores.length = k from hnn.out k] at hx
        exact hnw.out x hx
      replace hW := Lib.hid hW
      clear hnn
      go_wp2_with fail
      go_ret
      exact ⟨rfl, hfin.out _ hfi.out⟩
end Go.Proofs.Ytfkonpmnclknaaa

/-
  Copy of a world.
-/
namespace Go.Proofs.Ytfkonpmnclknaaa
open Go.RowKit
attribute [local go_sem ↓] Go.wp_at_zero Go.wp_at_succ

set_option maxHeartbeats 1000000 in
theorem clone_ones (A : Option Addr) (n c : Nat) (l : List (Nat × Bool)) (w : World) (h : oneE.At w w.heap.size A n l) (hn9 : n ≤ 1000000) :
    Calls Try.prog 79 #[.slice A n c] w fun e w' => ∃ v, e = .returned v ∧ oneE.Own w' w.heap.size v l ∧ Below w.heap.size w w' := by
  have hn := h.2.1
  have heq := fun (W : World) => Lib.run_eql_slice_nil (P := Try.prog) W 96 100 A n c 0 0 Try.underlying96
  cases A with
  | none =>
    have h0 : n = 0 := by
      rcases Nat.eq_zero_or_pos n with h0 | h0
      · exact h0
      · obtain ⟨_, _, e, _⟩ := h.2.2 h0; cases e
    have hl : l = [] := List.eq_nil_of_length_eq_zero (by rw [h.1]; exact h0)
    subst hl
    clear h0
    go_enter Try.func79, Try.ntmps79
    go_wp2
    go_ret
    exact ⟨.slice none 0 0, rfl, Owns.nil_, (by repeat (first | exact Below.refl _ _ | assumption | refine Below.drew ?_ | refine below_drewN ?_ _ | refine Below.alloc ?_ (by first | omega | (simp; try omega)) _ | refine Below.setCell ?_ (by first | omega | (simp; try omega)) _ | (refine Below.trans ?_ (Below.mono (by assumption) (by first | omega | (simp; try omega))))))⟩
  | some a =>
    go_enter Try.func79, Try.ntmps79
    go_wp2_with (at_builtin; go_must (refine Elem.wpList_row oneE rfl (.tmp 5) (.tmp 6) rfl w.heap.size (.slice (some ⟨w.heap.size, 0, none⟩) 0 0) [] rfl (some a) n c l rfl (Owns.emptyAt w rfl (Nat.le_refl _)) w.heap.size (h.below (by repeat (first | exact Below.refl _ _ | assumption | refine Below.drew ?_ | refine below_drewN ?_ _ | refine Below.alloc ?_ (by first | omega | (simp; try omega)) _ | refine Below.setCell ?_ (by first | omega | (simp; try omega)) _ | (refine Below.trans ?_ (Below.mono (by assumption) (by first | omega | (simp; try omega))))))) (by simp; omega) (by first | omega | (simp; try omega)) ?_; intro v' w1 hown hg hat))
    go_ret
    rw [List.nil_append] at hown
    exact ⟨v', rfl, hown, Below.grownOwn (by repeat (first | exact Below.refl _ _ | assumption | refine Below.drew ?_ | refine below_drewN ?_ _ | refine Below.alloc ?_ (by first | omega | (simp; try omega)) _ | refine Below.setCell ?_ (by first | omega | (simp; try omega)) _ | (refine Below.trans ?_ (Below.mono (by assumption) (by first | omega | (simp; try omega)))))) (Owns.emptyAt (k := oneE.k) (enc := oneE.enc) (T := oneE.T) w rfl (Nat.le_refl _)) (Nat.le_refl _) (by first | omega | (simp; try omega)) hg⟩

/-- A copy of a world, its first k stores copied. -/
structure CopyIn (w : World) (b g n c : Nat) (l : List (Nat × Bool)) (f : Nat → List Nat) (k base N : Nat) (m : Wld) : Prop where
  box : WB w b (.slice (some ⟨g, 0, none⟩) n c) (.int .i64 m.calls) (.int .i64 m.left) (.bool m.dark)
  own : oneE.Own w 0 (.slice (some ⟨g, 0, none⟩) n c) l
  len : l.length = m.stores.length
  sto : ∀ i s u, m.stores[i]? = some (s, u) → ∃ q, l[i]? = some (q, u) ∧ (i < k → StoAt w q (f i) N s)
  lo : ∀ i, i < k → ∀ x ∈ f i, base ≤ x
  gb : g < base ∧ b < base ∧ g ≠ b
  ap : ∀ i j, i < k → j < k → i ≠ j → ∀ x ∈ f i, x ∉ f j

theorem CopyIn.lt {w : World} {b g n c k base N : Nat} {l : List (Nat × Bool)} {f : Nat → List Nat} {m : Wld} (h : CopyIn w b g n c l f k base N m) (hk : k ≤ m.stores.length) : ∀ i, i < k → ∀ x ∈ f i, x < w.heap.size := fun i hi x hx => by
  have hm := List.getElem?_eq_getElem (l := m.stores) (i := i) (by omega)
  obtain ⟨q, _, h2⟩ := h.sto i _ _ hm
  exact (h2 hi).lt x hx
theorem CopyIn.gl {w : World} {b g n c k base N : Nat} {l : List (Nat × Bool)} {f : Nat → List Nat} {m : Wld} (h : CopyIn w b g n c l f k base N m) : g < w.heap.size := (h.own.within (i := g) rfl).2
theorem CopyIn.below {w w' : World} {b g n c k base N : Nat} {l : List (Nat × Bool)} {f : Nat → List Nat} {m : Wld} (h : CopyIn w b g n c l f k base N m) (hb : Below w.heap.size w w') : CopyIn w' b g n c l f k base N m :=
  { h with
    box := h.box.block (hb.block _ h.box.lt)
    own := h.own.blockS fun i e => hb.block _ (h.own.within e).2
    sto := fun i s u hx => by
      obtain ⟨q, h1, h2⟩ := h.sto i s u hx
      exact ⟨q, h1, fun hi => (h2 hi).below hb⟩ }
theorem CopyIn.step {w : World} {b g n c k base N q q' : Nat} {l : List (Nat × Bool)} {f : Nat → List Nat} {m : Wld} {s : Sto} {u : Bool} {F : List Nat} (h : CopyIn w b g n c l f k base N m) (hx : m.stores[k]? = some (s, u)) (hq : l[k]? = some (q, u)) (hs : StoAt w q' F N s) (hF : ∀ x ∈ F, base ≤ x) (hap : ∀ i, i < k → ∀ x ∈ f i, x ∉ F) :
    CopyIn (w.setCell ⟨g, k * 2, none⟩ (.pointer (some ⟨q', 0, none⟩))) b g n c (l.set k (q', u)) (setF f k F) (k + 1) base N m := by
  have hkl := (List.getElem?_eq_some_iff.1 hx).1
  exact
  { box := h.box.block (Go.Deep.blk_setCell_other _ _ _ _ (fun e => h.gb.2.2 (by rw [← show b = g from e])))
    own := Owns.setAt (k := 2) (j := 0) (fun x => oneE.len x) h.own hq rfl (by decide)
    len := by rw [List.length_set]; exact h.len
    sto := fun i t v hi => by
      obtain ⟨q1, h1, h2⟩ := h.sto i t v hi
      have hst : ∀ (F' : List Nat) (p : Nat) (s' : Sto), (∀ x ∈ F', base ≤ x) → StoAt w p F' N s' → StoAt (w.setCell ⟨g, k * 2, none⟩ (.pointer (some ⟨q', 0, none⟩))) p F' N s' := fun F' p s' hF' hs' => hs'.block fun x hxf => Go.Deep.blk_setCell_other _ _ _ _ (fun e => by have := hF' x hxf; have := h.gb.1; have e' : x = g := e; omega)
      by_cases hik : k = i
      · subst hik
        rw [hx] at hi
        cases hi
        refine ⟨q', by rw [List.getElem?_set_self (by rw [h.len]; exact hkl)], fun _ => ?_⟩
        unfold setF
        rw [if_pos rfl]
        exact hst F q' s hF hs
      · refine ⟨q1, by rw [List.getElem?_set_ne hik]; exact h1, fun hlt => ?_⟩
        unfold setF
        rw [if_neg (fun e => hik e.symm)]
        exact hst _ _ _ (h.lo i (by omega)) (h2 (by omega))
    lo := fun i hi => by
      unfold setF
      split
      · exact hF
      · exact h.lo i (by omega)
    gb := h.gb
    ap := fun i j hi hj hne x hxi hxj => by
      unfold setF at hxi hxj
      by_cases e1 : i = k
      · rw [if_pos e1] at hxi
        rw [if_neg (by omega)] at hxj
        exact hap j (by omega) x hxj hxi
      · rw [if_neg e1] at hxi
        by_cases e2 : j = k
        · rw [if_pos e2] at hxj
          exact hap i (by omega) x hxi hxj
        · rw [if_neg e2] at hxj
          exact h.ap i j (by omega) (by omega) hne x hxi hxj }
theorem CopyIn.done {w : World} {b g n c base N : Nat} {l : List (Nat × Bool)} {f : Nat → List Nat} {m : Wld} (h : CopyIn w b g n c l f m.stores.length base N m) (hf : m.stores.length ≤ 12) (hc : m.calls ≤ 1000000) (h1 : -1 ≤ m.left) (h2 : m.left ≤ 9223372036854775807) : WldIn w b (.slice (some ⟨g, 0, none⟩) n c) l f N m :=
  { box := h.box, own := h.own, len := h.len
    sto := fun i s u hx => by
      obtain ⟨q, k1, k2⟩ := h.sto i s u hx
      exact ⟨q, k1, k2 (List.getElem?_eq_some_iff.1 hx).1⟩
    apV := fun e => h.gb.2.2 (Option.some.inj e)
    apb := fun i hi hb => by have := h.lo i hi b hb; have := h.gb.2.1; omega
    apr := fun i x hi e hb => by
      cases e
      have := h.lo i hi g hb
      have := h.gb.1
      omega
    ap := h.ap
    few := hf, calls := hc, lo := h1, hi := h2 }

set_option maxHeartbeats 4000000 in
set_option maxRecDepth 100000 in
theorem world_Copy (b N : Nat) (X : List Nat) (m : Wld) (w : World) (h : WldAt w b X N m) (hne : 0 < m.stores.length) :
    Calls Try.prog 43 #[.pointer (some ⟨b, 0, none⟩)] w fun e w' => e = .returned (.pointer (some ⟨w.heap.size, 0, none⟩)) ∧ ∃ X', WldAt w' w.heap.size X' N m ∧ Below w.heap.size w w' ∧ ∀ x ∈ X', w.heap.size ≤ x := by
  obtain ⟨V, l, f, rfl, h⟩ := h
  obtain ⟨g, c, rfl, hfz⟩ := h.rowForm hne
  obtain ⟨z0, z1, z2, z3⟩ := h.box.cells
  have hrow := Owns.row (k := 2) (fun x => oneE.len x) h.own
  have hfew := h.few
  have hbl := h.box.lt
  obtain ⟨n, hn⟩ : ∃ n, n = m.stores.length := ⟨_, rfl⟩
  rw [← hn] at z0 hrow hfew
  have bx0 := Lib.hid (WB.new w (.slice (some ⟨g, 0, none⟩) n c) (.int .i64 m.calls) (.int .i64 m.left) (.bool m.dark))
  have hh := Lib.hid h
  replace hn := Lib.hid hn
  clear h
  go_enter Try.func43, Try.ntmps43
  go_upto_region 4 with fail
  have hz0 : (w.alloc (.cells #[.slice (some ⟨g, 0, none⟩) n c, .int .i64 m.calls, .int .i64 m.left, .bool m.dark] 98)).heap.size = w.heap.size + 1 := by simp
  have hb0 : Below w.heap.size w (w.alloc (.cells #[.slice (some ⟨g, 0, none⟩) n c, .int .i64 m.calls, .int .i64 m.left, .bool m.dark] 98)) := (Below.refl _ w).alloc (Nat.le_refl _) _
  generalize (w.alloc (.cells #[.slice (some ⟨g, 0, none⟩) n c, .int .i64 m.calls, .int .i64 m.left, .bool m.dark] 98)) = w0 at bx0 hz0 hb0 ⊢
  have hcl := clone_ones (some ⟨g, 0, none⟩) n c l w0 (hrow.to hb0) (by omega)
  have zz0 := (hb0.cell (p := ⟨b, 0, none⟩) hbl).trans z0
  have yf := bx0.out.frozen 0
  go_wp2_with fail
  refine hcl.mono ?_
  rintro e w1 ⟨v, rfl, ho, b1⟩
  obtain ⟨g2, c2, rfl, hg2⟩ : ∃ g2 c2, v = .slice (some ⟨g2, 0, none⟩) n c2 ∧ w0.heap.size ≤ g2 := by
    have hll : l.length = n := by rw [hh.out.len, ← hn.out]
    rcases ho.2 with ⟨e, h0⟩ | ⟨g2, cap, cur, e, hg, _⟩
    · have := hn.out
      omega
    · exact ⟨g2, cap, by rw [e, hll], hg⟩
  have hg2l : g2 < w1.heap.size := (ho.within (i := g2) rfl).2
  have bx1 := bx0.out.block (b1.block _ (by omega))
  obtain ⟨y0, _, _, _⟩ := bx1.cells
  have yf1 := bx1.frozen 0
  have hz1 := b1.size
  have hb1 : Below w.heap.size w w1 := hb0.trans (b1.mono (by omega))
  have hC0 : Hid (CopyIn (w1.setCell ⟨w.heap.size, 0, none⟩ (.slice (some ⟨g2, 0, none⟩) n c2)) w.heap.size g2 n c2 l f 0 w1.heap.size N m) := by
    exact
    { box := bx1.set0 _
      own := (Owns.from ho (Nat.zero_le _)).blockS fun i e => Go.Deep.blk_setCell_other _ _ _ _ (fun e' => by cases e; have e2 : g2 = w.heap.size := e'; omega)
      len := hh.out.len
      sto := fun i s u hx => by
        obtain ⟨q, k1, _⟩ := hh.out.sto i s u hx
        exact ⟨q, k1, fun hi => absurd hi (Nat.not_lt_zero i)⟩
      lo := fun i hi => absurd hi (Nat.not_lt_zero i)
      gb := ⟨hg2l, by omega, by omega⟩
      ap := fun i j hi => absurd hi (Nat.not_lt_zero i) }
  have hb2 : Below w.heap.size w (w1.setCell ⟨w.heap.size, 0, none⟩ (.slice (some ⟨g2, 0, none⟩) n c2)) := hb1.setCell (p := ⟨w.heap.size, 0, none⟩) (Nat.le_refl _) _
  have zz1 := (hb2.cell (p := ⟨b, 0, none⟩) hbl).trans z0
  have hbase : w1.heap.size ≤ (w1.setCell ⟨w.heap.size, 0, none⟩ (.slice (some ⟨g2, 0, none⟩) n c2)).heap.size := by simp
  replace ho := Lib.hid ho
  clear zz0 yf hcl bx0 bx1 b1
  go_upto_region 5 with fail
  generalize (w1.setCell ⟨w.heap.size, 0, none⟩ (.slice (some ⟨g2, 0, none⟩) n c2)) = w2 at hC0 hb2 zz1 hbase ⊢
  go_wp2_with fail
  go_loopw [4, 5, 22] (fun _ _ ti wr => ∃ (k : Nat) (l2 : List (Nat × Bool)) (f2 : Nat → List Nat), k ≤ n ∧ ti = .int .i64 k ∧ CopyIn wr w.heap.size g2 n c2 l2 f2 k w1.heap.size N m ∧ Below w.heap.size w wr ∧ w1.heap.size ≤ wr.heap.size) (fun _ _ ti _ => n - (intOf ti).toNat)
  case atStart => exact ⟨0, l, f, Nat.zero_le _, rfl, hC0.out, hb2, hbase⟩
  case round =>
    obtain ⟨k, l2, f2, hk, rfl, hC, hbr, hbz⟩ := hrel
    obtain ⟨wp, rfl⟩ : ∃ x : World, x = wr := ⟨_, rfl⟩
    by_cases hlt : k < n
    · obtain ⟨s, u, q, hx, hq, hst⟩ := hh.out.at_ (i := k) (by rw [← hn.out]; exact hlt)
      obtain ⟨b0, off, pr, e0, hb0', hpr, o0, o1⟩ := (hrow.below hbr).one (i := k) hlt
      simp only [Option.some.injEq, Addr.mk.injEq, and_true] at e0
      obtain ⟨rfl, rfl⟩ := e0
      obtain rfl : pr = (q, u) := by rw [hq] at hpr; exact (Option.some.inj hpr).symm
      simp only [Nat.zero_add] at o0 o1
      obtain ⟨q2, hq2, _⟩ := hC.sto k s u hx
      obtain ⟨y0, _, _, _⟩ := hC.box.cells
      have hgl2 := hC.gl
      have hal : Below wp.heap.size wp (wp.alloc (.cells #[.pointer (some ⟨q, 0, none⟩), .bool u] 100)) := (Below.refl _ _).alloc (Nat.le_refl _) _
      have hzal : (wp.alloc (.cells #[.pointer (some ⟨q, 0, none⟩), .bool u] 100)).heap.size = wp.heap.size + 1 := by simp
      have hsa : StoAt (wp.alloc (.cells #[.pointer (some ⟨q, 0, none⟩), .bool u] 100)) q (f k) N s := (hst.below hbr).below hal
      have hCa := hC.below hal
      have x0 := newCell wp #[.pointer (some ⟨q, 0, none⟩), .bool u] 100 (0, 0) 0
      have y0a := (hal.cell (p := ⟨w.heap.size, 0, none⟩) hC.box.lt).trans y0
      have hgla : g2 < (wp.alloc (.cells #[.pointer (some ⟨q, 0, none⟩), .bool u] 100)).heap.size := by omega
      have hla : ∀ i, i < k → ∀ x ∈ f2 i, x < wp.heap.size := hC.lt (by rw [← hn.out]; omega)
      have hbla : w.heap.size < wp.heap.size := hC.box.lt
      replace hx := Lib.hid hx
      replace hq := Lib.hid hq
      replace hpr := Lib.hid hpr
      replace hq2 := Lib.hid hq2
      replace hC := Lib.hid hC
      replace hla := Lib.hid hla
      clear hst y0
      go_upto_region 8 with fail
      generalize (wp.alloc (.cells #[.pointer (some ⟨q, 0, none⟩), .bool u] 100)) = wa at hal hzal hsa hCa x0 y0a hgla ⊢
      simp at x0
      have hd : Below wa.heap.size wa wa.drew := (Below.refl _ _).drew
      refine region_held_tail 6 (fun W : World => W.cell? ⟨w.heap.size, 0, none⟩ = some (.slice (some ⟨g2, 0, none⟩) n c2) ∧ W.cell? ⟨wp.heap.size, 0, none⟩ = some (.pointer (some ⟨q, 0, none⟩))) (by kernel_rfl) (by kernel_rfl) ?_
      have hHeld : (fun W : World => W.cell? ⟨w.heap.size, 0, none⟩ = some (.slice (some ⟨g2, 0, none⟩) n c2) ∧ W.cell? ⟨wp.heap.size, 0, none⟩ = some (.pointer (some ⟨q, 0, none⟩))) wa.drew := ⟨y0a, x0⟩
      (refine HT.takeL (i := 0) (v := ?_) rfl (by kernel_rfl) (fun _ _ _ h => h) (Or.inl ⟨by rfl, ?_⟩) (by assumption) ?_
       rotate_left
       · (intro w hSw; (try dsimp only at hSw); go_simp; (try with_reducible rfl))
       try simp only [Act.put, List.setIfInBounds_toArray, List.set_cons_zero, List.set_cons_succ])
      (refine HT.takeL (i := 1) (v := ?_) rfl (by kernel_rfl) (fun _ _ _ h => h) (Or.inl ⟨by rfl, ?_⟩) (by assumption) ?_
       rotate_left
       · (intro w hSw; (try dsimp only at hSw); go_simp; (try with_reducible rfl))
       try simp only [Act.put, List.setIfInBounds_toArray, List.set_cons_zero, List.set_cons_succ])
      (refine HT.takeL (i := 2) (v := ?_) rfl (by kernel_rfl) (fun _ _ _ h => h) (Or.inl ⟨by rfl, ?_⟩) (by assumption) ?_
       rotate_left
       · (intro w hSw; (try dsimp only at hSw); go_simp; (try with_reducible rfl))
       try simp only [Act.put, List.setIfInBounds_toArray, List.set_cons_zero, List.set_cons_succ])
      (refine HT.takeL (i := 3) (v := ?_) rfl (by kernel_rfl) (fun _ _ _ h => h) (Or.inl ⟨by rfl, ?_⟩) (by assumption) ?_
       rotate_left
       · (intro w hSw; (try dsimp only at hSw); go_simp; (try with_reducible rfl))
       try simp only [Act.put, List.setIfInBounds_toArray, List.set_cons_zero, List.set_cons_succ])
      (refine HT.takeL (i := 4) (v := ?_) rfl (by kernel_rfl) (fun _ _ _ h => h) (Or.inl ⟨by rfl, ?_⟩) (by assumption) ?_
       rotate_left
       · (intro w hSw; (try dsimp only at hSw); go_simp; (try with_reducible rfl))
       try simp only [Act.put, List.setIfInBounds_toArray, List.set_cons_zero, List.set_cons_succ])
      (refine HT.onlyL (i := 5) rfl (by kernel_rfl) (fun K hK => ?_)
       (go_simp; (refine (store_Copy q (f k) N s wa.drew (hsa.below hd)).mono ?_; rintro e w3 ⟨rfl, F3, s3, b3, l3⟩; have t3 := hd.trans b3))
       refine hK.out _ _ ?_ (fun hHeld => ?_)
       · (exact ⟨(t3.cell (p := ⟨w.heap.size, 0, none⟩) (by show w.heap.size < _; omega)).trans y0a, (t3.cell (p := ⟨wp.heap.size, 0, none⟩) (by show wp.heap.size < _; omega)).trans x0⟩)
       clear hK K
       try simp only [Act.put, List.setIfInBounds_toArray, List.set_cons_zero, List.set_cons_succ])
      refine HT.tail (by kernel_rfl) ?_
      simp only [List.drop_succ_cons, List.drop_zero]
      have hC3 := hCa.below t3
      have hl3 : ∀ x ∈ F3, wa.heap.size ≤ x := l3
      generalize wa.drew.heap.size = q3 at s3 ⊢
      obtain ⟨c0, hc0⟩ : ∃ u, w3.cell? ⟨g2, k * 2, none⟩ = some u := by
        obtain ⟨b9, off9, pr9, e9, _, _, v0, _⟩ := (Owns.row (k := 2) (fun x => oneE.len x) hC3.own).one (i := k) hlt
        simp only [Option.some.injEq, Addr.mk.injEq, and_true] at e9
        obtain ⟨rfl, rfl⟩ := e9
        simp only [Nat.zero_add] at v0
        exact ⟨_, v0⟩
      have hfg : w3.frozen? ⟨g2, k * 2, none⟩ = false := by
        rcases hC3.own.2 with ⟨e, _⟩ | ⟨g', cap, cur, e, _, hh', _⟩
        · cases e
        · cases e
          simp [World.frozen?, hh']
      have hCn := Lib.hid (hC3.step (q' := q3) hx.out hq2.out s3 (fun x hx => by have := hl3 x hx; omega) (fun i hi x hxi hxF => by have := hla.out i hi x hxi; have := hl3 x hxF; omega))
      have hbn : Below w.heap.size w (w3.setCell ⟨g2, k * 2, none⟩ (.pointer (some ⟨q3, 0, none⟩))) := ((hbr.trans (hal.mono (by omega))).trans (t3.mono (by omega))).setCell (p := ⟨g2, k * 2, none⟩) (by show w.heap.size ≤ g2; omega) _
      have hzn : w1.heap.size ≤ (w3.setCell ⟨g2, k * 2, none⟩ (.pointer (some ⟨q3, 0, none⟩))).heap.size := by have := t3.size; simp; omega
      replace hbn := Lib.hid hbn
      replace hC3 := Lib.hid hC3
      clear hHeld hCa hsa s3 l3 hl3 b3 t3 x0 y0a hd
      go_wp2_with fail
      go_roundw
      case rel => exact ⟨k + 1, _, _, by omega, by go_num, hCn.out, hbn.out, hzn⟩
      case measure => simp [intOf]; omega
    · obtain rfl : k = n := by omega
      have hfin : Hid (WldIn wp w.heap.size (.slice (some ⟨g2, 0, none⟩) k c2) l2 f2 N m) := by
        unfold Hid
        refine CopyIn.done (by rw [← hn.out]; exact hC) (by rw [← hn.out]; exact hfew) hh.out.calls hh.out.lo hh.out.hi
      have hlo : Hid (∀ x ∈ wBlocks w.heap.size (.slice (some ⟨g2, 0, none⟩) k c2) f2 m.stores.length, w.heap.size ≤ x) := by
        intro x hx
        rcases mem_wBlocks.1 hx with rfl | e | ⟨i, hi, hxi⟩
        · exact Nat.le_refl _
        · have e' : g2 = x := Option.some.inj e
          omega
        · have := hC.lo i (by rw [hn.out]; exact hi) x hxi
          omega
      replace hC := Lib.hid hC
      go_wp2_with fail
      go_ret
      exact ⟨rfl, _, ⟨_, l2, f2, rfl, hfin.out⟩, hbr, hlo.out⟩
end Go.Proofs.Ytfkonpmnclknaaa
