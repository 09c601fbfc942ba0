/-
  Strike of the reference's world.
-/
import Derived.Test.YtfkonpmnclknaaaGreatRwlE
namespace Go.Proofs.YtfkonpmnclknaaaGreat
open Go.RowKit
attribute [local go_sem ↓] Go.wp_at_zero Go.wp_at_succ

set_option maxHeartbeats 4000000 in
set_option maxRecDepth 100000 in
theorem ref08_Strike (b N : Nat) (X : List Nat) (m : Wld) (ft : Flt) (hk0 : 0 ≤ ft.kind ∧ ft.kind ≤ 255) (w : World) (h : RWAt w b X m) (hok : ∀ p ∈ m.stores, StoOk N p.1) :
    Calls Tryz.prog 25 #[.pointer (some ⟨b, 0, none⟩), ft.agg] w fun e w' => e = .returned (.int .i64 (m.strike ft).2) ∧ RWTo b X (m.strike ft).1 w w' := by
  have hA : Below w.heap.size w (w.alloc ft.box) := (Below.refl _ w).alloc (Nat.le_refl _) _
  have h1 := h.below hA
  obtain ⟨kind, store, fn, fa, fc⟩ := ft
  unfold Flt.box at hA h1
  unfold Flt.agg
  dsimp only at hA h1 hk0 ⊢
  have x0 := newCell w #[.int .u8 kind, .int .i64 store, .int .i64 fn, .int .i64 fa, .int .i64 fc] 39 (0, 0)
  have hz0 : (w.alloc (.cells #[.int .u8 kind, .int .i64 store, .int .i64 fn, .int .i64 fa, .int .i64 fc] 39)).heap.size = w.heap.size + 1 := by simp
  have q0 := x0 0
  have q1 := x0 1
  have q2 := x0 2
  have q3 := x0 3
  have q4 := x0 4
  have hwX : w.heap.size ∉ X := fun hi => by have := h.lt _ hi; omega
  clear x0
  have hsame := Lib.hid (RWTo.same h hA)
  obtain ⟨V, U, l, f, rfl, hW⟩ := h1
  obtain ⟨A, nv, cv, rfl⟩ : ∃ A m c, V = .slice A m c := by obtain ⟨A, c, e⟩ := Owns.form hW.own; exact ⟨A, _, c, e⟩
  have hnv : nv = m.stores.length := by rw [← hW.len]; exact (Owns.row (k := 1) (fun x => ptE.len x) hW.own).1.symm
  obtain ⟨z0, z1, _, _, _⟩ := hW.box.cells
  have hfew : nv ≤ 12 := by rw [hnv]; exact hW.few
  cases hh : m.has store with
  | false =>
    have hr : Hid (m.strike ⟨kind, store, fn, fa, fc⟩ = (m, 1)) := by unfold Hid Wld.strike; dsimp only; rw [hh]; rfl
    have hbad : store < 0 ∨ (nv : Int) ≤ store := by
      unfold Wld.has at hh
      rw [hnv]
      simp only [Bool.and_eq_false_iff, decide_eq_false_iff_not] at hh
      omega
    replace hh := Lib.hid hh
    replace hnv := Lib.hid hnv
    replace hW := Lib.hid hW
    clear h
    by_cases hi0 : store < 0
    · go_enter Tryz.func25, Tryz.ntmps25
      go_upto_region 1 with fail
      generalize (w.alloc (.cells #[.int .u8 kind, .int .i64 store, .int .i64 fn, .int .i64 fa, .int .i64 fc] 39)) = w0 at hA q0 q1 q2 q3 q4 hz0 hsame hW z0 z1 ⊢
      simp at q1
      go_quiet (fail)
      rename_i nq
      have hA2 : Below w0.heap.size w0 (w0.drewN nq) := below_drewN (Below.refl _ _) nq
      go_wp2_with fail
      go_ret
      exact ⟨by rw [hr.out]; rfl, by rw [hr.out]; exact RWTo.then_ hsame.out hA2⟩
    · have hi1 : (nv : Int) ≤ store := by omega
      go_enter Tryz.func25, Tryz.ntmps25
      go_upto_region 1 with fail
      generalize (w.alloc (.cells #[.int .u8 kind, .int .i64 store, .int .i64 fn, .int .i64 fa, .int .i64 fc] 39)) = w0 at hA q0 q1 q2 q3 q4 hz0 hsame hW z0 z1 ⊢
      simp at q1
      go_quiet (fail)
      rename_i nq
      have hA2 : Below w0.heap.size w0 (w0.drewN nq) := below_drewN (Below.refl _ _) nq
      go_wp2_with fail
      go_ret
      exact ⟨by rw [hr.out]; rfl, by rw [hr.out]; exact RWTo.then_ hsame.out hA2⟩
  | true =>
    obtain ⟨k, hkk, hk, hkt⟩ := has_at hh
    have hne : 0 < m.stores.length := by omega
    obtain ⟨g, c, hVf⟩ := hW.rowForm hne
    simp only [Value.slice.injEq] at hVf
    obtain ⟨rfl, e2, rfl⟩ := hVf
    clear e2
    obtain ⟨gu, cu, rfl, _⟩ := hW.suspForm hne
    obtain ⟨s, u, q, hx, hq, hst⟩ := hW.at_ (i := k) hk
    obtain ⟨b0, off, pr, e0, hb0, hpr, o0⟩ := (Owns.row (k := 1) (fun x => ptE.len x) hW.own).pt (i := k) (by omega)
    simp only [Option.some.injEq, Addr.mk.injEq, and_true] at e0
    obtain ⟨rfl, rfl⟩ := e0
    obtain rfl : pr = q := by rw [hq] at hpr; exact (Option.some.inj hpr).symm
    simp only [Nat.zero_add] at o0
    have hwk : w.heap.size ∉ f k := fun hi => hwX (mem_rBlocks.2 (.inr (.inr (.inr ⟨k, hk, hi⟩))))
    have hbk : b ∉ f k := hW.apb k hk
    have hbl : b < w.heap.size := h.lt b (mem_rBlocks.2 (.inl rfl))
    have hso := hok _ (List.mem_of_getElem? hx)
    have hS := fun W (hW : RefAt W pr (f k) s) => ref07_Strike pr (f k) N s hso ⟨kind, store, fn, fa, fc⟩ W hW
    unfold Flt.agg at hS
    dsimp only at hS hso
    obtain ⟨s', hs'⟩ : ∃ s', s' = (s.strike ⟨kind, store, fn, fa, fc⟩).1 := ⟨_, rfl⟩
    obtain ⟨r, hr'⟩ : ∃ r, r = (s.strike ⟨kind, store, fn, fa, fc⟩).2 := ⟨_, rfl⟩
    rw [← hs', ← hr'] at hS
    have hres : Hid (m.strike ⟨kind, store, fn, fa, fc⟩ = if r = 0 then (if kind = 5 ∨ kind = 7 then (m.put k s', 0) else ((m.put k s').mark k true, 0)) else (m.put k s', r)) := by
      unfold Hid Wld.strike
      dsimp only
      rw [if_pos hh, hkt, hx]
      dsimp only
      rw [← hs', ← hr']
    have hcall := Lib.hid fun W w' (hWW : RWIn W b (.slice (some ⟨g, 0, none⟩) nv cv) (.slice (some ⟨gu, 0, none⟩) m.stores.length cu) l f m) (hto : RefTo pr (f k) s' W w') => hWW.call hx hq hto
    obtain ⟨n, hn⟩ : ∃ n, n = m.stores.length := ⟨_, rfl⟩
    have hkn : k < n := by omega
    have hkv : k < nv := by omega
    have hn12 : n ≤ 12 := by omega
    rw [← hn] at z1
    subst hkk
    replace hW := Lib.hid hW
    replace hs' := Lib.hid hs'
    replace hr' := Lib.hid hr'
    replace hn := Lib.hid hn
    replace hnv := Lib.hid hnv
    replace hh := Lib.hid hh
    replace hx := Lib.hid hx
    replace hq := Lib.hid hq
    replace hpr := Lib.hid hpr
    replace hso := Lib.hid hso
    clear h hkt hb0 hok
    go_enter Tryz.func25, Tryz.ntmps25
    go_upto_region 1 with fail
    generalize (w.alloc (.cells #[.int .u8 kind, .int .i64 k, .int .i64 fn, .int .i64 fa, .int .i64 fc] 39)) = w0 at hA q0 q1 q2 q3 q4 hz0 hsame hW hst o0 z0 z1 ⊢
    simp at q0 q1 q2 q3 q4
    go_quiet (fail)
    rename_i nq
    go_upto_region 3 with fail
    refine region_held_tail 9 (fun W : World => W.cell? ⟨b, 0, none⟩ = some (.slice (some ⟨g, 0, none⟩) nv cv) ∧ W.cell? ⟨g, k, none⟩ = some (.pointer (some ⟨pr, 0, none⟩)) ∧ W.cell? ⟨w.heap.size, 0, none⟩ = some (.int .u8 kind) ∧ W.cell? ⟨w.heap.size, 1, none⟩ = some (.int .i64 k) ∧ W.cell? ⟨w.heap.size, 2, none⟩ = some (.int .i64 fn) ∧ W.cell? ⟨w.heap.size, 3, none⟩ = some (.int .i64 fa) ∧ W.cell? ⟨w.heap.size, 4, none⟩ = some (.int .i64 fc)) (by kernel_rfl) (by kernel_rfl) ?_
    have hHeld : (fun W : World => W.cell? ⟨b, 0, none⟩ = some (.slice (some ⟨g, 0, none⟩) nv cv) ∧ W.cell? ⟨g, k, none⟩ = some (.pointer (some ⟨pr, 0, none⟩)) ∧ W.cell? ⟨w.heap.size, 0, none⟩ = some (.int .u8 kind) ∧ W.cell? ⟨w.heap.size, 1, none⟩ = some (.int .i64 k) ∧ W.cell? ⟨w.heap.size, 2, none⟩ = some (.int .i64 fn) ∧ W.cell? ⟨w.heap.size, 3, none⟩ = some (.int .i64 fa) ∧ W.cell? ⟨w.heap.size, 4, none⟩ = some (.int .i64 fc)) (w0.drewN nq).drew := ⟨z0, o0, q0, q1, q2, q3, q4⟩
    (refine HT.takeL (i := 0) (v := ?_) rfl (by kernel_rfl) (fun _ _ _ h => h) (Or.inl ⟨by rfl, ?_⟩) (by assumption) ?_
     rotate_left
     · (intro w hSw; (try dsimp only at hSw); go_simp; (try with_reducible rfl))
     try simp only [Act.put, List.setIfInBounds_toArray, List.set_cons_zero, List.set_cons_succ])
    (refine HT.takeL (i := 1) (v := ?_) rfl (by kernel_rfl) (fun _ _ _ h => h) (Or.inl ⟨by rfl, ?_⟩) (by assumption) ?_
     rotate_left
     · (intro w hSw; (try dsimp only at hSw); go_simp; (try with_reducible rfl))
     try simp only [Act.put, List.setIfInBounds_toArray, List.set_cons_zero, List.set_cons_succ])
    (refine HT.takeL (i := 2) (v := ?_) rfl (by kernel_rfl) (fun _ _ _ h => h) (Or.inl ⟨by rfl, ?_⟩) (by assumption) ?_
     rotate_left
     · (intro w hSw; (try dsimp only at hSw); go_simp; (try with_reducible rfl))
     try simp only [Act.put, List.setIfInBounds_toArray, List.set_cons_zero, List.set_cons_succ])
    (refine HT.takeL (i := 3) (v := ?_) rfl (by kernel_rfl) (fun _ _ _ h => h) (Or.inl ⟨by rfl, ?_⟩) (by assumption) ?_
     rotate_left
     · (intro w hSw; (try dsimp only at hSw); go_simp; (try with_reducible rfl))
     try simp only [Act.put, List.setIfInBounds_toArray, List.set_cons_zero, List.set_cons_succ])
    (refine HT.takeL (i := 4) (v := ?_) rfl (by kernel_rfl) (fun _ _ _ h => h) (Or.inl ⟨by rfl, ?_⟩) (by assumption) ?_
     rotate_left
     · (intro w hSw; (try dsimp only at hSw); go_simp; (try with_reducible rfl))
     try simp only [Act.put, List.setIfInBounds_toArray, List.set_cons_zero, List.set_cons_succ])
    (refine HT.takeL (i := 5) (v := ?_) rfl (by kernel_rfl) (fun _ _ _ h => h) (Or.inl ⟨by rfl, ?_⟩) (by assumption) ?_
     rotate_left
     · (intro w hSw; (try dsimp only at hSw); go_simp; (try with_reducible rfl))
     try simp only [Act.put, List.setIfInBounds_toArray, List.set_cons_zero, List.set_cons_succ])
    (refine HT.takeL (i := 6) (v := ?_) rfl (by kernel_rfl) (fun _ _ _ h => h) (Or.inl ⟨by rfl, ?_⟩) (by assumption) ?_
     rotate_left
     · (intro w hSw; (try dsimp only at hSw); go_simp; (try with_reducible rfl))
     try simp only [Act.put, List.setIfInBounds_toArray, List.set_cons_zero, List.set_cons_succ])
    (refine HT.takeL (i := 7) (v := ?_) rfl (by kernel_rfl) (fun _ _ _ h => h) (Or.inl ⟨by rfl, ?_⟩) (by assumption) ?_
     rotate_left
     · (intro w hSw; (try dsimp only at hSw); go_simp; (try with_reducible rfl))
     try simp only [Act.put, List.setIfInBounds_toArray, List.set_cons_zero, List.set_cons_succ])
    (refine HT.takeL (i := 8) (v := ?_) rfl (by kernel_rfl) (fun _ _ _ h => h) (Or.inl ⟨by rfl, ?_⟩) (by assumption) ?_
     rotate_left
     · (intro w hSw; (try dsimp only at hSw); go_simp; (try with_reducible rfl))
     try simp only [Act.put, List.setIfInBounds_toArray, List.set_cons_zero, List.set_cons_succ])
    refine HT.tail (by kernel_rfl) ?_
    simp only [List.drop_succ_cons, List.drop_zero]
    have hS2 := hS _ (hst.block (w' := (w0.drewN nq).drew) fun _ _ => rfl)
    have hW2 := Lib.hid (hW.out.block (w' := (w0.drewN nq).drew) fun _ _ => rfl)
    have hA2 : Below w.heap.size w (w0.drewN nq).drew := hA.trans (((below_drewN (Below.refl w0.heap.size w0) nq).drew).mono (by omega))
    have hz2 : (w0.drewN nq).drew.heap.size = w.heap.size + 1 := hz0
    have zz1 : (w0.drewN nq).drew.cell? ⟨b, 1, none⟩ = some (.slice (some ⟨gu, 0, none⟩) n cu) := z1
    generalize (w0.drewN nq).drew = w2 at hS2 hW2 hHeld hA2 hz2 zz1 ⊢
    clear hS hW hst o0 z0 z1 q0 q1 q2 q3 q4 hA hz0
    obtain ⟨_, _, p0, p1, _, _, _⟩ := hHeld
    go_wp2_with fail
    refine hS2.mono ?_
    rintro e w3 ⟨rfl, hto⟩
    obtain ⟨f', r1, r2, r3⟩ := hcall.out _ _ hW2.out hto
    have p3 : w3.cell? ⟨w.heap.size, 0, none⟩ = some (.int .u8 kind) := (World.cell?_of_block (a := ⟨w.heap.size, 0, none⟩) (r2.block _ (by show w.heap.size < _; omega) hwk)).trans p0
    have p4 : w3.cell? ⟨w.heap.size, 1, none⟩ = some (.int .i64 k) := (World.cell?_of_block (a := ⟨w.heap.size, 1, none⟩) (r2.block _ (by show w.heap.size < _; omega) hwk)).trans p1
    have y1 : w3.cell? ⟨b, 1, none⟩ = some (.slice (some ⟨gu, 0, none⟩) n cu) := (World.cell?_of_block (a := ⟨b, 1, none⟩) (r2.block _ (by show b < _; omega) hbk)).trans zz1
    have hml : (m.put k s').stores.length = m.stores.length := by simp [Wld.put]
    have hto3 : RWTo b (rBlocks b (.slice (some ⟨g, 0, none⟩) nv cv) (.slice (some ⟨gu, 0, none⟩) m.stores.length cu) f m.stores.length) (m.put k s') w w3 := by
      refine RWTo.ahead hA2 ⟨_, ⟨_, _, l, f', rfl, r1⟩, r2.more (fun x hx => mem_rBlocks.2 (.inr (.inr (.inr ⟨k, hk, hx⟩)))), fun x hx => ?_⟩
      rw [hml] at hx
      exact r3 x hx
    clear hS2 hcall hto p0 p1 zz1
    by_cases hz : r = 0
    · subst hz
      by_cases h5 : kind = 5
      · subst h5
        have hr2 : Hid (m.strike ⟨5, k, fn, fa, fc⟩ = (m.put k s', 0)) := by unfold Hid; rw [hres.out]; rfl
        replace r1 := Lib.hid r1
        go_wp2_with fail
        go_ret
        exact ⟨by rw [hr2.out]; rfl, by rw [hr2.out]; exact hto3⟩
      · by_cases h7 : kind = 7
        · subst h7
          have hr2 : Hid (m.strike ⟨7, k, fn, fa, fc⟩ = (m.put k s', 0)) := by unfold Hid; rw [hres.out]; rfl
          replace r1 := Lib.hid r1
          go_wp2_with fail
          go_ret
          exact ⟨by rw [hr2.out]; rfl, by rw [hr2.out]; exact hto3⟩
        · have hr2 : Hid (m.strike ⟨kind, k, fn, fa, fc⟩ = ((m.put k s').mark k true, 0)) := by unfold Hid; rw [hres.out, if_pos rfl, if_neg (by simp [h5, h7])]
          have i5 : (kind != 5) = true := by simpa using h5
          have i7 : (kind != 7) = true := by simpa using h7
          obtain ⟨s9, u9, q9, hx9, hq9, hst9⟩ := r1.at_ (i := k) (by rw [hml]; exact hk)
          obtain ⟨b9, off9, pr9, e9, hb9, hpr9, v0⟩ := (Owns.row (k := 1) (fun x => boE.len x) r1.ownU).bo (i := k) hk
          simp only [Option.some.injEq, Addr.mk.injEq, and_true] at e9
          obtain ⟨rfl, rfl⟩ := e9
          simp only [Nat.zero_add] at v0
          have hfg : w3.frozen? ⟨gu, k, none⟩ = false := by
            rcases r1.ownU.2 with ⟨e, _⟩ | ⟨g', cap, cur, e, _, hh', _⟩
            · simp at e
            · simp only [Value.slice.injEq, Option.some.injEq, Addr.mk.injEq, and_true] at e
              obtain ⟨rfl, _, _⟩ := e
              simp [World.frozen?, hh']
          have hmk := Lib.hid (r1.mark hx9 true)
          have hbut : But (rBlocks b (.slice (some ⟨g, 0, none⟩) nv cv) (.slice (some ⟨gu, 0, none⟩) m.stores.length cu) f m.stores.length) w (w3.setCell ⟨gu, k, none⟩ (.bool true)) := by
            obtain ⟨_, _, k2, _⟩ := hto3
            exact k2.trans (But.of_set (F := [gu]) _ (by simp)) (by intro x hx; simp at hx; subst hx; exact .inl (mem_rBlocks.2 (.inr (.inr (.inl rfl)))))
          have hnew := Lib.hid r3
          have hzz := hA2.size
          replace r1 := Lib.hid r1
          replace hbut := Lib.hid hbut
          replace hpr9 := Lib.hid hpr9
          replace hx9 := Lib.hid hx9
          replace hq9 := Lib.hid hq9
          have hr3 := r2.size
          clear hto3 hst9 hb9 r2 r3 hml
          go_upto_region 5 with fail
          refine region_held_tail 6 (fun W : World => W.cell? ⟨b, 1, none⟩ = some (.slice (some ⟨gu, 0, none⟩) n cu) ∧ W.cell? ⟨w.heap.size, 1, none⟩ = some (.int .i64 k)) (by kernel_rfl) (by kernel_rfl) ?_
          have hHeld : (fun W : World => W.cell? ⟨b, 1, none⟩ = some (.slice (some ⟨gu, 0, none⟩) n cu) ∧ W.cell? ⟨w.heap.size, 1, none⟩ = some (.int .i64 k)) w3.drew := ⟨y1, p4⟩
          (refine HT.takeL (i := 0) (v := ?_) rfl (by kernel_rfl) (fun _ _ _ h => h) (Or.inl ⟨by rfl, ?_⟩) (by assumption) ?_
           rotate_left
           · (intro w hSw; (try dsimp only at hSw); go_simp; (try with_reducible rfl))
           try simp only [Act.put, List.setIfInBounds_toArray, List.set_cons_zero, List.set_cons_succ])
          (refine HT.takeL (i := 1) (v := ?_) rfl (by kernel_rfl) (fun _ _ _ h => h) (Or.inl ⟨by rfl, ?_⟩) (by assumption) ?_
           rotate_left
           · (intro w hSw; (try dsimp only at hSw); go_simp; (try with_reducible rfl))
           try simp only [Act.put, List.setIfInBounds_toArray, List.set_cons_zero, List.set_cons_succ])
          (refine HT.takeL (i := 2) (v := ?_) rfl (by kernel_rfl) (fun _ _ _ h => h) (Or.inl ⟨by rfl, ?_⟩) (by assumption) ?_
           rotate_left
           · (intro w hSw; (try dsimp only at hSw); go_simp; (try with_reducible rfl))
           try simp only [Act.put, List.setIfInBounds_toArray, List.set_cons_zero, List.set_cons_succ])
          (refine HT.takeL (i := 3) (v := ?_) rfl (by kernel_rfl) (fun _ _ _ h => h) (Or.inl ⟨by rfl, ?_⟩) (by assumption) ?_
           rotate_left
           · (intro w hSw; (try dsimp only at hSw); go_simp; (try with_reducible rfl))
           try simp only [Act.put, List.setIfInBounds_toArray, List.set_cons_zero, List.set_cons_succ])
          (refine HT.takeL (i := 4) (v := ?_) rfl (by kernel_rfl) (fun _ _ _ h => h) (Or.inl ⟨by rfl, ?_⟩) (by assumption) ?_
           rotate_left
           · (intro w hSw; (try dsimp only at hSw); go_simp; (try with_reducible rfl))
           try simp only [Act.put, List.setIfInBounds_toArray, List.set_cons_zero, List.set_cons_succ])
          (refine HT.takeL (i := 5) (v := ?_) rfl (by kernel_rfl) (fun _ _ _ h => h) (Or.inl ⟨by rfl, ?_⟩) (by assumption) ?_
           rotate_left
           · (intro w hSw; (try dsimp only at hSw); go_simp; (try with_reducible rfl))
           try simp only [Act.put, List.setIfInBounds_toArray, List.set_cons_zero, List.set_cons_succ])
          refine HT.tail (by kernel_rfl) ?_
          simp only [List.drop_succ_cons, List.drop_zero]
          have vd : w3.drew.cell? ⟨gu, k, none⟩ = some (.bool pr9) := v0
          have fd : w3.drew.frozen? ⟨gu, k, none⟩ = false := hfg
          go_wp2_with fail
          go_ret
          refine ⟨by rw [hr2.out]; rfl, ?_⟩
          rw [hr2.out]
          refine ⟨_, ⟨_, _, l, f', rfl, hmk.out.block fun _ _ => rfl⟩, ⟨hbut.out.os, hbut.out.tape, hbut.out.output, hbut.out.size, hbut.out.block⟩, fun x hx => ?_⟩
          rw [show ((m.put k s').mark k true).stores.length = m.stores.length from by simp [Wld.put, Wld.mark]] at hx
          exact (hnew.out x hx).imp id fun e => Nat.le_trans hzz e
    · have hr2 : Hid (m.strike ⟨kind, k, fn, fa, fc⟩ = (m.put k s', r)) := by unfold Hid; rw [hres.out, if_neg hz]
      have i0 : (r == 0) = false := by simpa using hz
      replace hz := Lib.hid hz
      replace r1 := Lib.hid r1
      go_wp2_with fail
      go_ret
      exact ⟨by rw [hr2.out]; rfl, by rw [hr2.out]; exact hto3⟩
end Go.Proofs.YtfkonpmnclknaaaGreat
/-
  Copy of the reference's world.
-/
namespace Go.Proofs.YtfkonpmnclknaaaGreat
open Go.RowKit
attribute [local go_sem ↓] Go.wp_at_zero Go.wp_at_succ

set_option maxHeartbeats 4000000 in
set_option maxRecDepth 100000 in
theorem ref08_Copy (b N : Nat) (X : List Nat) (m : Wld) (w : World) (h : RWAt w b X m) (hok : ∀ p ∈ m.stores, StoOk N p.1) (hne : 0 < m.stores.length) :
    Calls Tryz.prog 24 #[.pointer (some ⟨b, 0, none⟩)] w fun e w' => ∃ b2 X', e = .returned (.pointer (some ⟨b2, 0, none⟩)) ∧ RWAt w' b2 X' m ∧ Below w.heap.size w w' ∧ ∀ x ∈ X', w.heap.size ≤ x := by
  obtain ⟨V, U, l, f, rfl, h⟩ := h
  obtain ⟨g, c, rfl⟩ := h.rowForm hne
  obtain ⟨AU, nU, cU, rfl⟩ : ∃ A m c, U = .slice A m c := by obtain ⟨A, c, e⟩ := Owns.form h.ownU; exact ⟨A, _, c, e⟩
  obtain ⟨z0, z1, z2, z3, z4⟩ := h.box.cells
  have hrow := Owns.row (k := 1) (fun x => ptE.len x) h.own
  have hrowU := Owns.row (k := 1) (fun x => boE.len x) h.ownU
  have hnU : nU ≤ 12 := by have := hrowU.1; rw [susp_len] at this; have := h.few; omega
  have hfew := h.few
  have hbl := h.box.lt
  obtain ⟨n, hn⟩ : ∃ n, n = m.stores.length := ⟨_, rfl⟩
  rw [← hn] at z0 hrow hfew
  have hh := Lib.hid h
  replace hok := Lib.hid hok
  replace hn := Lib.hid hn
  clear h
  have hd : Below w.heap.size w w.drew := (Below.refl _ _).drew
  go_enter Tryz.func24, Tryz.ntmps24
  go_upto_region 1 with fail
  have hcc : ∀ W : World, Below w.heap.size w W → W.cell? ⟨b, 1, none⟩ = some (.slice AU nU cU) ∧ W.cell? ⟨b, 2, none⟩ = some (.int .i64 m.calls) ∧ W.cell? ⟨b, 3, none⟩ = some (.int .i64 m.left) ∧ W.cell? ⟨b, 4, none⟩ = some (.bool m.dark) := fun W x => ⟨(x.cell (p := ⟨b, 1, none⟩) hbl).trans z1, (x.cell (p := ⟨b, 2, none⟩) hbl).trans z2, (x.cell (p := ⟨b, 3, none⟩) hbl).trans z3, (x.cell (p := ⟨b, 4, none⟩) hbl).trans z4⟩
  replace hcc := Lib.hid hcc
  refine region_held_tail 20 (fun W : World => W.cell? ⟨b, 1, none⟩ = some (.slice AU nU cU) ∧ W.cell? ⟨b, 2, none⟩ = some (.int .i64 m.calls) ∧ W.cell? ⟨b, 3, none⟩ = some (.int .i64 m.left) ∧ W.cell? ⟨b, 4, none⟩ = some (.bool m.dark)) (by kernel_rfl) (by kernel_rfl) ?_
  have hHeld : (fun W : World => W.cell? ⟨b, 1, none⟩ = some (.slice AU nU cU) ∧ W.cell? ⟨b, 2, none⟩ = some (.int .i64 m.calls) ∧ W.cell? ⟨b, 3, none⟩ = some (.int .i64 m.left) ∧ W.cell? ⟨b, 4, none⟩ = some (.bool m.dark)) w.drew := hcc.out _ hd
  (refine HT.takeL (i := 1) (v := ?_) rfl (by kernel_rfl) (fun _ _ _ h => h) (Or.inl ⟨by rfl, ?_⟩) (by assumption) ?_
   rotate_left
   · (intro w hSw; (try dsimp only at hSw); go_simp; (try with_reducible rfl))
   try simp only [Act.put, List.setIfInBounds_toArray, List.set_cons_zero, List.set_cons_succ])
  (refine HT.takeL (i := 2) (v := ?_) rfl (by kernel_rfl) (fun _ _ _ h => h) (Or.inl ⟨by rfl, ?_⟩) (by assumption) ?_
   rotate_left
   · (intro w hSw; (try dsimp only at hSw); go_simp; (try with_reducible rfl))
   try simp only [Act.put, List.setIfInBounds_toArray, List.set_cons_zero, List.set_cons_succ])
  (refine HT.takeL (i := 3) (v := ?_) rfl (by kernel_rfl) (fun _ _ _ h => h) (Or.inl ⟨by rfl, ?_⟩) (by assumption) ?_
   rotate_left
   · (intro w hSw; (try dsimp only at hSw); go_simp; (try with_reducible rfl))
   try simp only [Act.put, List.setIfInBounds_toArray, List.set_cons_zero, List.set_cons_succ])
  (refine HT.takeL (i := 4) (v := ?_) rfl (by kernel_rfl) (fun _ _ _ h => h) (Or.inl ⟨by rfl, ?_⟩) (by assumption) ?_
   rotate_left
   · (intro w hSw; (try dsimp only at hSw); go_simp; (try with_reducible rfl))
   try simp only [Act.put, List.setIfInBounds_toArray, List.set_cons_zero, List.set_cons_succ])
  (refine HT.takeL (i := 6) (v := ?_) rfl (by kernel_rfl) (fun _ _ _ h => h) (Or.inl ⟨by rfl, ?_⟩) (by assumption) ?_
   rotate_left
   · (intro w hSw; (try dsimp only at hSw); go_simp; (try with_reducible rfl))
   try simp only [Act.put, List.setIfInBounds_toArray, List.set_cons_zero, List.set_cons_succ])
  (refine HT.takeL (i := 7) (v := ?_) rfl (by kernel_rfl) (fun _ _ _ h => h) (Or.inl ⟨by rfl, ?_⟩) (by assumption) ?_
   rotate_left
   · (intro w hSw; (try dsimp only at hSw); go_simp; (try with_reducible rfl))
   try simp only [Act.put, List.setIfInBounds_toArray, List.set_cons_zero, List.set_cons_succ])
  (refine HT.takeL (i := 8) (v := ?_) rfl (by kernel_rfl) (fun _ _ _ h => h) (Or.inl ⟨by rfl, ?_⟩) (by assumption) ?_
   rotate_left
   · (intro w hSw; (try dsimp only at hSw); go_simp; (try with_reducible rfl))
   try simp only [Act.put, List.setIfInBounds_toArray, List.set_cons_zero, List.set_cons_succ])
  (refine HT.takeL (i := 9) (v := ?_) rfl (by kernel_rfl) (fun _ _ _ h => h) (Or.inl ⟨by rfl, ?_⟩) (by assumption) ?_
   rotate_left
   · (intro w hSw; (try dsimp only at hSw); go_simp; (try with_reducible rfl))
   try simp only [Act.put, List.setIfInBounds_toArray, List.set_cons_zero, List.set_cons_succ])
  (refine HT.takeL (i := 10) (v := ?_) rfl (by kernel_rfl) (fun _ _ _ h => h) (Or.inl ⟨by rfl, ?_⟩) (by assumption) ?_
   rotate_left
   · (intro w hSw; (try dsimp only at hSw); go_simp; (try with_reducible rfl))
   try simp only [Act.put, List.setIfInBounds_toArray, List.set_cons_zero, List.set_cons_succ])
  (refine HT.takeL (i := 11) (v := ?_) rfl (by kernel_rfl) (fun _ _ _ h => h) (Or.inl ⟨by rfl, ?_⟩) (by assumption) ?_
   rotate_left
   · (intro w hSw; (try dsimp only at hSw); go_simp; (try with_reducible rfl))
   try simp only [Act.put, List.setIfInBounds_toArray, List.set_cons_zero, List.set_cons_succ])
  (refine HT.takeL (i := 12) (v := ?_) rfl (by kernel_rfl) (fun _ _ _ h => h) (Or.inl ⟨by rfl, ?_⟩) (by assumption) ?_
   rotate_left
   · (intro w hSw; (try dsimp only at hSw); go_simp; (try with_reducible rfl))
   try simp only [Act.put, List.setIfInBounds_toArray, List.set_cons_zero, List.set_cons_succ])
  (refine HT.takeL (i := 13) (v := ?_) rfl (by kernel_rfl) (fun _ _ _ h => h) (Or.inl ⟨by rfl, ?_⟩) (by assumption) ?_
   rotate_left
   · (intro w hSw; (try dsimp only at hSw); go_simp; (try with_reducible rfl))
   try simp only [Act.put, List.setIfInBounds_toArray, List.set_cons_zero, List.set_cons_succ])
  (refine HT.takeL (i := 14) (v := ?_) rfl (by kernel_rfl) (fun _ _ _ h => h) (Or.inl ⟨by rfl, ?_⟩) (by assumption) ?_
   rotate_left
   · (intro w hSw; (try dsimp only at hSw); go_simp; (try with_reducible rfl))
   try simp only [Act.put, List.setIfInBounds_toArray, List.set_cons_zero, List.set_cons_succ])
  (refine HT.takeL (i := 15) (v := ?_) rfl (by kernel_rfl) (fun _ _ _ h => h) (Or.inl ⟨by rfl, ?_⟩) (by assumption) ?_
   rotate_left
   · (intro w hSw; (try dsimp only at hSw); go_simp; (try with_reducible rfl))
   try simp only [Act.put, List.setIfInBounds_toArray, List.set_cons_zero, List.set_cons_succ])
  (refine HT.takeL (i := 16) (v := ?_) rfl (by kernel_rfl) (fun _ _ _ h => h) (Or.inl ⟨by rfl, ?_⟩) (by assumption) ?_
   rotate_left
   · (intro w hSw; (try dsimp only at hSw); go_simp; (try with_reducible rfl))
   try simp only [Act.put, List.setIfInBounds_toArray, List.set_cons_zero, List.set_cons_succ])
  (refine HT.takeL (i := 17) (v := ?_) rfl (by kernel_rfl) (fun _ _ _ h => h) (Or.inl ⟨by rfl, ?_⟩) (by assumption) ?_
   rotate_left
   · (intro w hSw; (try dsimp only at hSw); go_simp; (try with_reducible rfl))
   try simp only [Act.put, List.setIfInBounds_toArray, List.set_cons_zero, List.set_cons_succ])
  have bA : Below w.heap.size w (w.drew.alloc (.cells #[] 4)) := hd.alloc (Nat.le_refl _) _
  (refine HT.onlyL (i := 0) rfl (by kernel_rfl) (fun K hK => ?_)
   go_simp
   refine hK.out _ _ ?_ (fun hHeld => ?_)
   · (exact hcc.out _ bA)
   clear hK K
   try simp only [Act.put, List.setIfInBounds_toArray, List.set_cons_zero, List.set_cons_succ])
  have oA : boE.Own (w.drew.alloc (.cells #[] 4)) w.heap.size (.slice (some ⟨w.drew.heap.size, 0, none⟩) 0 0) [] := Owns.emptyAt w.drew rfl (Nat.le_refl _)
  (refine HT.onlyL (i := 5) rfl (by kernel_rfl) (fun K hK => ?_)
   ((apply Elem.step_row boE (s := .tmp 5) (x := .tmp 9) (base := w.heap.size) (l := []) (l' := m.susp); (case' hgd => rfl); (case' ho => rfl); (case' hs => rfl); (case' hx => rfl); (case' hown => exact oA); (case' hr => exact hrowU.to bA); (case' hl => simp; omega); (case' hbase => exact bA.size)); intro v5 w5 ho5 hg5 hat5; have b5 : Below w.heap.size w w5 := bA.trans (Below.grownOwn (Below.refl _ _) oA (Nat.le_refl _) bA.size hg5))
   refine hK.out _ _ ?_ (fun hHeld => ?_)
   · (exact hcc.out _ b5)
   clear hK K
   try simp only [Act.put, List.setIfInBounds_toArray, List.set_cons_zero, List.set_cons_succ])
  obtain ⟨A5, m5, c5, rfl⟩ : ∃ A m c, v5 = .slice A m c := by obtain ⟨A, c, e⟩ := Owns.form ho5; exact ⟨A, _, c, e⟩
  (refine HT.takeL (i := 18) (v := ?_) rfl (by kernel_rfl) (fun _ _ _ h => h) (Or.inl ⟨by rfl, ?_⟩) (by assumption) ?_
   rotate_left
   · (intro w hSw; (try dsimp only at hSw); go_simp; (try with_reducible rfl))
   try simp only [Act.put, List.setIfInBounds_toArray, List.set_cons_zero, List.set_cons_succ])
  have b6 : Below w.heap.size w (w5.alloc (.cells #[.slice none 0 0, .slice A5 m5 c5, .int .i64 m.calls, .int .i64 m.left, .bool m.dark] 75)) := b5.alloc b5.size _
  (refine HT.onlyL (i := 19) rfl (by kernel_rfl) (fun K hK => ?_)
   go_simp
   refine hK.out _ _ ?_ (fun hHeld => ?_)
   · (exact hcc.out _ b6)
   clear hK K
   try simp only [Act.put, List.setIfInBounds_toArray, List.set_cons_zero, List.set_cons_succ])
  refine HT.tail (by kernel_rfl) ?_
  simp only [List.drop_succ_cons, List.drop_zero]
  have hbx := XB.new w5 (.slice none 0 0) (.slice A5 m5 c5) (.int .i64 m.calls) (.int .i64 m.left) (.bool m.dark)
  have ho5' : boE.Own w5 w.heap.size (.slice A5 m5 c5) m.susp := by rw [List.nil_append] at ho5; exact ho5
  have hU5 : ∀ i, (Value.slice A5 m5 c5).ownBlock = some i → w.heap.size ≤ i ∧ i < w5.heap.size := fun i e => ho5'.within e
  have hP0 : RPart (w5.alloc (.cells #[.slice none 0 0, .slice A5 m5 c5, .int .i64 m.calls, .int .i64 m.left, .bool m.dark] 75)) w5.heap.size (.slice none 0 0) (.slice A5 m5 c5) [] (fun _ => []) 0 m :=
    { box := hbx
      own := Owns.nil_
      ownU := (Owns.from ho5' (Nat.zero_le _)).alloc _
      len := rfl
      sto := fun i s u hi => absurd hi (Nat.not_lt_zero i)
      old := fun i hi => absurd hi (Nat.not_lt_zero i)
      apV := by simp [Value.ownBlock]
      apU := fun e => by have := (hU5 _ e).2; omega
      apVU := fun x e => by simp [Value.ownBlock] at e
      apb := fun i hi => absurd hi (Nat.not_lt_zero i)
      apr := fun i g hi => absurd hi (Nat.not_lt_zero i)
      apu := fun i g hi => absurd hi (Nat.not_lt_zero i)
      ap := fun i j hi => absurd hi (Nat.not_lt_zero i) }
  have hz5 := b5.size
  have hb2 : w.heap.size ≤ w5.heap.size := hz5
  have hz6 : w5.heap.size < (w5.alloc (.cells #[.slice none 0 0, .slice A5 m5 c5, .int .i64 m.calls, .int .i64 m.left, .bool m.dark] 75)).heap.size := by simp
  replace hU5 := Lib.hid hU5
  clear hHeld hbx ho5 ho5' oA bA hg5 hat5 hcc b5
  generalize (w5.alloc (.cells #[.slice none 0 0, .slice A5 m5 c5, .int .i64 m.calls, .int .i64 m.left, .bool m.dark] 75)) = w6 at hP0 b6 hz6 ⊢
  have hU6 : Hid (∀ i, (Value.slice A5 m5 c5).ownBlock = some i → w.heap.size ≤ i ∧ i < w5.heap.size) := hU5
  generalize w5.heap.size = b2 at hP0 hz6 hb2 hU5 hU6 hz5 ⊢
  clear hz5 hU5
  go_wp2_with fail
  go_loopw [4] (fun ti wr => ∃ (k : Nat) (V2 : Value) (l2 : List Nat) (f2 : Nat → List Nat), k ≤ n ∧ ti = .int .i64 k ∧ RPart wr b2 V2 (.slice A5 m5 c5) l2 f2 k m ∧ (∀ x ∈ rBlocks b2 V2 (.slice A5 m5 c5) f2 k, w.heap.size ≤ x) ∧ Below w.heap.size w wr) (fun ti _ => n - (intOf ti).toNat)
  case atStart => exact ⟨0, _, _, _, Nat.zero_le _, rfl, hP0, fun x hx => by
    rcases mem_rBlocks.1 hx with rfl | e | e | ⟨i, hi, _⟩
    · exact hb2
    · simp [Value.ownBlock] at e
    · exact (hU6.out x e).1
    · omega, b6⟩
  case round =>
    obtain ⟨k, V2, l2, f2, hk, rfl, hP, hlo, hbr⟩ := hrel
    obtain ⟨wp, rfl⟩ : ∃ x : World, x = wr := ⟨_, rfl⟩
    have zz0 := (hbr.cell (p := ⟨b, 0, none⟩) hbl).trans z0
    by_cases hlt : k < n
    · obtain ⟨c0, _, _, _, _⟩ := hP.box.cells
      obtain ⟨s, u, q, hx, hq, hst⟩ := hh.out.at_ (i := k) (by rw [← hn.out]; exact hlt)
      obtain ⟨b0, off, pr, e0, hb0, hpr, o0⟩ := (hrow.below hbr).pt (i := k) hlt
      simp only [Option.some.injEq, Addr.mk.injEq, and_true] at e0
      obtain ⟨rfl, rfl⟩ := e0
      obtain rfl : pr = q := by rw [hq] at hpr; exact (Option.some.inj hpr).symm
      simp only [Nat.zero_add] at o0
      have hso := hok.out _ (List.mem_of_getElem? hx)
      have hsp := hst.below hbr
      have hzp : b2 < wp.heap.size := hP.box.lt
      have hzw := hbr.size
      have hll : l2.length = k := hP.len
      have hd : Below wp.heap.size wp wp.drew := (Below.refl _ _).drew
      replace hx := Lib.hid hx
      replace hpr := Lib.hid hpr
      replace hq := Lib.hid hq
      replace hso := Lib.hid hso
      clear hst
      have hS : ∀ W, Below wp.heap.size wp W → W.cell? ⟨b2, 0, none⟩ = some V2 ∧ W.cell? ⟨b, 0, none⟩ = some (.slice (some ⟨g, 0, none⟩) n c) ∧ W.cell? ⟨g, k, none⟩ = some (.pointer (some ⟨pr, 0, none⟩)) := fun W x => ⟨(x.cell (p := ⟨b2, 0, none⟩) hzp).trans c0, (x.cell (p := ⟨b, 0, none⟩) (by show b < _; omega)).trans zz0, (x.cell (p := ⟨g, k, none⟩) (by show g < _; omega)).trans o0⟩
      replace hS := Lib.hid hS
      go_upto_region 5 with fail
      refine region_held_tail 15 (fun W : World => W.cell? ⟨b2, 0, none⟩ = some V2 ∧ W.cell? ⟨b, 0, none⟩ = some (.slice (some ⟨g, 0, none⟩) n c) ∧ W.cell? ⟨g, k, none⟩ = some (.pointer (some ⟨pr, 0, none⟩))) (by kernel_rfl) (by kernel_rfl) ?_
      have hHeld : (fun W : World => W.cell? ⟨b2, 0, none⟩ = some V2 ∧ W.cell? ⟨b, 0, none⟩ = some (.slice (some ⟨g, 0, none⟩) n c) ∧ W.cell? ⟨g, k, none⟩ = some (.pointer (some ⟨pr, 0, none⟩))) wp.drew := hS.out _ hd
      (refine HT.takeL (i := 0) (v := ?_) rfl (by kernel_rfl) (fun _ _ _ h => h) (Or.inl ⟨by rfl, ?_⟩) (by assumption) ?_
       rotate_left
       · (intro w hSw; (try dsimp only at hSw); go_simp; (try with_reducible rfl))
       try simp only [Act.put, List.setIfInBounds_toArray, List.set_cons_zero, List.set_cons_succ])
      (refine HT.takeL (i := 1) (v := ?_) rfl (by kernel_rfl) (fun _ _ _ h => h) (Or.inl ⟨by rfl, ?_⟩) (by assumption) ?_
       rotate_left
       · (intro w hSw; (try dsimp only at hSw); go_simp; (try with_reducible rfl))
       try simp only [Act.put, List.setIfInBounds_toArray, List.set_cons_zero, List.set_cons_succ])
      (refine HT.takeL (i := 2) (v := ?_) rfl (by kernel_rfl) (fun _ _ _ h => h) (Or.inl ⟨by rfl, ?_⟩) (by assumption) ?_
       rotate_left
       · (intro w hSw; (try dsimp only at hSw); go_simp; (try with_reducible rfl))
       try simp only [Act.put, List.setIfInBounds_toArray, List.set_cons_zero, List.set_cons_succ])
      (refine HT.takeL (i := 3) (v := ?_) rfl (by kernel_rfl) (fun _ _ _ h => h) (Or.inl ⟨by rfl, ?_⟩) (by assumption) ?_
       rotate_left
       · (intro w hSw; (try dsimp only at hSw); go_simp; (try with_reducible rfl))
       try simp only [Act.put, List.setIfInBounds_toArray, List.set_cons_zero, List.set_cons_succ])
      (refine HT.takeL (i := 4) (v := ?_) rfl (by kernel_rfl) (fun _ _ _ h => h) (Or.inl ⟨by rfl, ?_⟩) (by assumption) ?_
       rotate_left
       · (intro w hSw; (try dsimp only at hSw); go_simp; (try with_reducible rfl))
       try simp only [Act.put, List.setIfInBounds_toArray, List.set_cons_zero, List.set_cons_succ])
      (refine HT.takeL (i := 5) (v := ?_) rfl (by kernel_rfl) (fun _ _ _ h => h) (Or.inl ⟨by rfl, ?_⟩) (by assumption) ?_
       rotate_left
       · (intro w hSw; (try dsimp only at hSw); go_simp; (try with_reducible rfl))
       try simp only [Act.put, List.setIfInBounds_toArray, List.set_cons_zero, List.set_cons_succ])
      (refine HT.takeL (i := 6) (v := ?_) rfl (by kernel_rfl) (fun _ _ _ h => h) (Or.inl ⟨by rfl, ?_⟩) (by assumption) ?_
       rotate_left
       · (intro w hSw; (try dsimp only at hSw); go_simp; (try with_reducible rfl))
       try simp only [Act.put, List.setIfInBounds_toArray, List.set_cons_zero, List.set_cons_succ])
      (refine HT.takeL (i := 7) (v := ?_) rfl (by kernel_rfl) (fun _ _ _ h => h) (Or.inl ⟨by rfl, ?_⟩) (by assumption) ?_
       rotate_left
       · (intro w hSw; (try dsimp only at hSw); go_simp; (try with_reducible rfl))
       try simp only [Act.put, List.setIfInBounds_toArray, List.set_cons_zero, List.set_cons_succ])
      (refine HT.takeL (i := 8) (v := ?_) rfl (by kernel_rfl) (fun _ _ _ h => h) (Or.inl ⟨by rfl, ?_⟩) (by assumption) ?_
       rotate_left
       · (intro w hSw; (try dsimp only at hSw); go_simp; (try with_reducible rfl))
       try simp only [Act.put, List.setIfInBounds_toArray, List.set_cons_zero, List.set_cons_succ])
      (refine HT.takeL (i := 9) (v := ?_) rfl (by kernel_rfl) (fun _ _ _ h => h) (Or.inl ⟨by rfl, ?_⟩) (by assumption) ?_
       rotate_left
       · (intro w hSw; (try dsimp only at hSw); go_simp; (try with_reducible rfl))
       try simp only [Act.put, List.setIfInBounds_toArray, List.set_cons_zero, List.set_cons_succ])
      (refine HT.takeL (i := 10) (v := ?_) rfl (by kernel_rfl) (fun _ _ _ h => h) (Or.inl ⟨by rfl, ?_⟩) (by assumption) ?_
       rotate_left
       · (intro w hSw; (try dsimp only at hSw); go_simp; (try with_reducible rfl))
       try simp only [Act.put, List.setIfInBounds_toArray, List.set_cons_zero, List.set_cons_succ])
      (refine HT.takeL (i := 11) (v := ?_) rfl (by kernel_rfl) (fun _ _ _ h => h) (Or.inl ⟨by rfl, ?_⟩) (by assumption) ?_
       rotate_left
       · (intro w hSw; (try dsimp only at hSw); go_simp; (try with_reducible rfl))
       try simp only [Act.put, List.setIfInBounds_toArray, List.set_cons_zero, List.set_cons_succ])
      (refine HT.onlyL (i := 12) rfl (by kernel_rfl) (fun K hK => ?_)
       (go_simp; (refine (ref07_Copy pr (f k) N s hso.out wp.drew (hsp.below hd)).mono ?_; rintro e w1 ⟨rfl, F1, s1, b1, l1⟩; have t1 := hd.trans b1))
       refine hK.out _ _ ?_ (fun hHeld => ?_)
       · (exact hS.out _ t1)
       clear hK K
       try simp only [Act.put, List.setIfInBounds_toArray, List.set_cons_zero, List.set_cons_succ])
      have hq1 : ∀ x ∈ F1, wp.heap.size ≤ x := l1
      generalize wp.drew.heap.size = q1 at s1 ⊢
      have bA : Below wp.heap.size wp (w1.alloc (.cells #[.pointer (some ⟨q1, 0, none⟩)] 76)) := t1.alloc t1.size _
      (refine HT.onlyL (i := 13) rfl (by kernel_rfl) (fun K hK => ?_)
       go_simp
       refine hK.out _ _ ?_ (fun hHeld => ?_)
       · (exact hS.out _ bA)
       clear hK K
       try simp only [Act.put, List.setIfInBounds_toArray, List.set_cons_zero, List.set_cons_succ])
      have sA := s1.below ((Below.refl _ w1).alloc (Nat.le_refl _) (.cells #[.pointer (some ⟨q1, 0, none⟩)] 76))
      have hPA := hP.below bA
      have hoA := hPA.own
      have hVs : ∀ x, x < wp.heap.size → V2.ownBlock ≠ some x → ∀ w4 : World, (w1.alloc (.cells #[.pointer (some ⟨q1, 0, none⟩)] 76)).grownBy w4 V2.ownBlock → w4.heap[x]? = (w1.alloc (.cells #[.pointer (some ⟨q1, 0, none⟩)] 76)).heap[x]? := fun x hx hv w4 hg => hg.block x (by have := bA.size; omega) (fun e => hv e.symm)
      have hVo : ∀ x, x < w.heap.size → V2.ownBlock ≠ some x := fun x hx e => by have := hlo x (mem_rBlocks.2 (.inr (.inl e))); omega
      (refine HT.onlyL (i := 14) rfl (by kernel_rfl) (fun K hK => ?_)
       ((apply Elem.step_one ptE (s := .tmp 38) (x := .tmp 47) (base := 0) (l := l2) (y := q1); (case' hgd => rfl); (case' ho => rfl); (case' hs => rfl); (case' hx => rfl); (case' hown => exact (hoA)); (case' hy => exact (fun j u hu => by rcases j with _ | j <;> simp [ptE, ptCells] at hu; subst hu; first | (go_simp; done) | exact newCell _ _ _ _ _)); (case' hl => exact (by omega)); (case' hbase => exact (by first | omega | (simp; try omega)))); intro v' w4 ho4 hg4 hat4)
       refine hK.out _ _ ?_ (fun hHeld => ?_)
       · (exact ⟨(World.cell?_of_block (a := ⟨b2, 0, none⟩) (hVs b2 hzp hPA.apV w4 hg4)).trans (hS.out _ bA).1, (World.cell?_of_block (a := ⟨b, 0, none⟩) (hVs b (by omega) (hVo b hbl) w4 hg4)).trans (hS.out _ bA).2.1, (World.cell?_of_block (a := ⟨g, k, none⟩) (hVs g (by omega) (hVo g hb0) w4 hg4)).trans (hS.out _ bA).2.2⟩)
       clear hK K
       try simp only [Act.put, List.setIfInBounds_toArray, List.set_cons_zero, List.set_cons_succ])
      refine HT.tail (by kernel_rfl) ?_
      simp only [List.drop_succ_cons, List.drop_zero]
      have hg5 : (w1.alloc (.cells #[.pointer (some ⟨q1, 0, none⟩)] 76)).grownBy w4 V2.ownBlock := hg4
      have hF : ∀ x ∈ F1, x ≠ b2 ∧ V2.ownBlock ≠ some x ∧ (Value.slice A5 m5 c5).ownBlock ≠ some x ∧ ∀ i, i < k → x ∉ f2 i := fun x hx => by
        have h1 := hq1 x hx
        refine ⟨by omega, fun e => ?_, fun e => ?_, fun i hi hxi => ?_⟩
        · have := (hP.own.within e).2
          omega
        · have := (hU6.out x e).2
          omega
        · have := hP.old i hi x hxi
          omega
      have hgr := hPA.grow hx.out sA hF ho4 hg5 hat4
      obtain ⟨A9, m9, c9, rfl⟩ : ∃ A m c, v' = .slice A m c := by obtain ⟨A, c, e⟩ := Owns.form ho4; exact ⟨A, _, c, e⟩
      have f4 := (hPA.box.grown hg5 hPA.apV).frozen 0
      obtain ⟨g0, _, _, _, _⟩ := (hPA.box.grown hg5 hPA.apV).cells
      have hlo2 : ∀ x ∈ rBlocks b2 (.slice A9 m9 c9) (.slice A5 m5 c5) (setF f2 k F1) (k + 1), w.heap.size ≤ x := fun x hx => by
        rcases mem_rBlocks.1 hx with rfl | e | e | ⟨i, hi, hxi⟩
        · exact hb2
        · rcases hat4 with e' | e'
          · exact hlo x (mem_rBlocks.2 (.inr (.inl (e'.symm.trans e))))
          · have := Option.some.inj (e'.symm.trans e)
            have := bA.size
            omega
        · exact (hU6.out x e).1
        · unfold setF at hxi
          split at hxi
          · have := hq1 x hxi
            omega
          · exact hlo x (mem_rBlocks.2 (.inr (.inr (.inr ⟨i, by omega, hxi⟩))))
      have hbut : Below w.heap.size w (w4.setCell ⟨b2, 0, none⟩ (.slice A9 m9 c9)) := by
        have e1 : Below w.heap.size w (w1.alloc (.cells #[.pointer (some ⟨q1, 0, none⟩)] 76)) := hbr.trans (bA.mono hzw)
        have e2 := (But.of_grown (F := V2.ownBlock.toList) hg5 (by simp)).below (B := w.heap.size) e1.size (fun x hx => hlo x (mem_rBlocks.2 (.inr (.inl (by simpa using hx)))))
        exact (e1.trans e2).setCell (p := ⟨b2, 0, none⟩) hb2 _
      replace hgr := Lib.hid hgr
      replace hlo2 := Lib.hid hlo2
      replace hbut := Lib.hid hbut
      clear hHeld hS hoA ho4 hg4 hg5 hat4 hPA sA bA hF c0 hP hlo hVs hVo s1 hsp
      go_wp2_with fail
      go_roundw
      case rel => exact ⟨k + 1, _, _, _, by omega, by go_num, hgr.out, hlo2.out, hbut.out⟩
      case measure => simp [intOf]; omega
    · obtain rfl : k = n := by omega
      have hfin : Hid (RWIn wp b2 V2 (.slice A5 m5 c5) l2 f2 m) := RPart.done (by rw [← hn.out]; exact hP) (by rw [← hn.out]; exact hfew) hh.out.calls hh.out.lo hh.out.hi
      replace hP := Lib.hid hP
      replace hlo := Lib.hid hlo
      go_wp2_with fail
      go_ret
      exact ⟨_, _, rfl, ⟨V2, _, l2, f2, rfl, hfin.out⟩, hbr, by rw [← hn.out]; exact hlo.out⟩
end Go.Proofs.YtfkonpmnclknaaaGreat
