/-
  act of chapter 7: whatever is done to a store, the document's answers the same.
-/
import Derived.Test.YtfkonpmnclknaaaActP
import Derived.Test.YtfkonpmnclknaaaHeld
namespace Go.Proofs.Ytfkonpmnclknaaa
open Go.RowKit
attribute [local go_sem ↓] Go.wp_at_zero Go.wp_at_succ

theorem act_alloc (w : World) (a : Actx) : Below w.heap.size w (w.alloc (.cells #[.int .u8 a.kind, .string a.name, .string a.data, .slice a.kA a.kn a.kc, .int .u8 a.f.kind, .int .i64 a.f.store, .int .i64 a.f.n, .int .i64 a.f.at_, .int .i64 a.f.c] 35)) := (Below.refl _ w).alloc (Nat.le_refl _) _
theorem fault_fit {W : World} {a : Actx} (h : ActOk W a) : a.f.fit := ⟨h.fn.2, h.fa.2, h.fc.2⟩
theorem StoTo.cell {b N : Nat} {F : List Nat} {s : Sto} {w w' : World} (h : StoTo b F N s w w') {q o : Nat} (hq : q < w.heap.size) (hF : q ∉ F) : w'.cell? ⟨q, o, none⟩ = w.cell? ⟨q, o, none⟩ := by
  obtain ⟨F', _, h2, _⟩ := h
  exact World.cell?_of_block (a := ⟨q, o, none⟩) (h2.block q hq hF)
theorem RefTo.cell {b : Nat} {F : List Nat} {s : Sto} {w w' : World} (h : RefTo b F s w w') {q o : Nat} (hq : q < w.heap.size) (hF : q ∉ F) : w'.cell? ⟨q, o, none⟩ = w.cell? ⟨q, o, none⟩ := by
  obtain ⟨F', _, h2, _⟩ := h
  exact World.cell?_of_block (a := ⟨q, o, none⟩) (h2.block q hq hF)

set_option maxHeartbeats 8000000 in
set_option maxRecDepth 100000 in
theorem law07_act (b : Nat) (F : List Nat) (N c : Nat) (G : List Nat) (s : Sto) (a : Actx) (w W0 : World) (hN : N + 1 ≤ 1000000) (h : Pair w b F N c G s) (ho : ActOk W0 a) (hk : IntsAt w w.heap.size a.kA a.kn a.keep) (hkG : 0 < a.kn → ∀ b' off, a.kA = some ⟨b', off, none⟩ → b' ∉ G)
    (hn : a.name.size ≤ maxLen) (hd : a.data.size ≤ maxLen) :
    Calls Try.prog 10 #[.pointer (some ⟨b, 0, none⟩), .pointer (some ⟨c, 0, none⟩), a.agg] w fun e w' => e = .returned (.bool true) ∧ PairTo b F (N + 1) c G (s.act a) w w' := by
  have hA := act_alloc w a
  have hfit := fault_fit ho
  have hk0 := ho.kind.1
  obtain ⟨kind, name, data, kA, kn, kc, ⟨fk, fs, fn, fa, fc⟩, keep⟩ := a
  unfold Actx.agg
  dsimp only at hA hfit hk0 hk hkG hn hd ⊢
  have x0 := newCell w #[.int .u8 kind, .string name, .string data, .slice kA kn kc, .int .u8 fk, .int .i64 fs, .int .i64 fn, .int .i64 fa, .int .i64 fc] 35 (0, 0)
  have hz0 : (w.alloc (.cells #[.int .u8 kind, .string name, .string data, .slice kA kn kc, .int .u8 fk, .int .i64 fs, .int .i64 fn, .int .i64 fa, .int .i64 fc] 35)).heap.size = w.heap.size + 1 := by simp
  have hqF : w.heap.size ∉ F := fun hi => by have := h.sto.lt _ hi; omega
  have hqG : w.heap.size ∉ G := fun hi => by have := h.ref.lt _ hi; omega
  have hok := h.ok
  have hw := h
  have h0 := h.below hA
  replace ho := Lib.hid ho
  have hzz : Hid (∀ z : Int, (z == z) = true) := by unfold Hid; simp
  by_cases e0 : kind = 0
  · subst e0
    have hfin : ∀ w0 w1 w2, Below w.heap.size w w0 → StoTo b F (N + 1) (s.put (name, data)).1 w0 w1 → RefTo c G (s.put (name, data)).1 w1 w2 → PairTo b F (N + 1) c G (s.put (name, data)).1 w w2 := fun w0 w1 w2 k1 k2 k3 => PairTo.done h k1 k2 k3 (put_coh h.coh _)
    have hra : ∀ w0 w1, Below w.heap.size w w0 → StoTo b F (N + 1) (s.put (name, data)).1 w0 w1 → RefAt w1 c G s := fun w0 w1 k1 k2 => h.ref_after k1 k2
    have hres : Hid (s.act ⟨0, name, data, kA, kn, kc, ⟨fk, fs, fn, fa, fc⟩, keep⟩ = (s.put (name, data)).1) := rfl
    have q1 := x0 1
    have q2 := x0 2
    have q0 := x0 0
    replace hfin := Lib.hid hfin
    replace hra := Lib.hid hra
    clear x0 hw
    go_enter Try.func10, Try.ntmps10
    go_upto_region 3 with fail
    generalize (w.alloc (.cells #[.int .u8 0, .string name, .string data, .slice kA kn kc, .int .u8 fk, .int .i64 fs, .int .i64 fn, .int .i64 fa, .int .i64 fc] 35)) = w0 at hA q0 q1 q2 hz0 h0 ⊢
    simp at q1 q2
    have hd0 : Below w0.heap.size w0 w0.drew := (Below.refl _ _).drew
    refine region_held_tail 7 (fun W : World => W.cell? ⟨w.heap.size, 1, none⟩ = some (.string name) ∧ W.cell? ⟨w.heap.size, 2, none⟩ = some (.string data)) (by kernel_rfl) (by kernel_rfl) ?_
    have hHeld : (fun W : World => W.cell? ⟨w.heap.size, 1, none⟩ = some (.string name) ∧ W.cell? ⟨w.heap.size, 2, none⟩ = some (.string data)) w0.drew := ⟨q1, q2⟩
    (refine HT.takeL (i := 0) (v := ?_) rfl (by kernel_rfl) (fun _ _ _ h => h) (Or.inl ⟨by rfl, ?_⟩) (by assumption) ?_
     rotate_left
     · (intro w hSw; (try dsimp only at hSw); go_simp; (try with_reducible rfl))
     try simp only [Act.put, List.setIfInBounds_toArray, List.set_cons_zero, List.set_cons_succ])
    (refine HT.takeL (i := 1) (v := ?_) rfl (by kernel_rfl) (fun _ _ _ h => h) (Or.inl ⟨by rfl, ?_⟩) (by assumption) ?_
     rotate_left
     · (intro w hSw; (try dsimp only at hSw); go_simp; (try with_reducible rfl))
     try simp only [Act.put, List.setIfInBounds_toArray, List.set_cons_zero, List.set_cons_succ])
    (refine HT.takeL (i := 2) (v := ?_) rfl (by kernel_rfl) (fun _ _ _ h => h) (Or.inl ⟨by rfl, ?_⟩) (by assumption) ?_
     rotate_left
     · (intro w hSw; (try dsimp only at hSw); go_simp; (try with_reducible rfl))
     try simp only [Act.put, List.setIfInBounds_toArray, List.set_cons_zero, List.set_cons_succ])
    (refine HT.takeL (i := 4) (v := ?_) rfl (by kernel_rfl) (fun _ _ _ h => h) (Or.inl ⟨by rfl, ?_⟩) (by assumption) ?_
     rotate_left
     · (intro w hSw; (try dsimp only at hSw); go_simp; (try with_reducible rfl))
     try simp only [Act.put, List.setIfInBounds_toArray, List.set_cons_zero, List.set_cons_succ])
    (refine HT.takeL (i := 5) (v := ?_) rfl (by kernel_rfl) (fun _ _ _ h => h) (Or.inl ⟨by rfl, ?_⟩) (by assumption) ?_
     rotate_left
     · (intro w hSw; (try dsimp only at hSw); go_simp; (try with_reducible rfl))
     try simp only [Act.put, List.setIfInBounds_toArray, List.set_cons_zero, List.set_cons_succ])
    (refine HT.takeL (i := 6) (v := ?_) rfl (by kernel_rfl) (fun _ _ _ h => h) (Or.inl ⟨by rfl, ?_⟩) (by assumption) ?_
     rotate_left
     · (intro w hSw; (try dsimp only at hSw); go_simp; (try with_reducible rfl))
     try simp only [Act.put, List.setIfInBounds_toArray, List.set_cons_zero, List.set_cons_succ])
    (refine HT.onlyL (i := 3) rfl (by kernel_rfl) (fun K hK => ?_)
     (go_simp; (refine (store_Put b F N s (name, data) hn hd hN w0.drew (h0.sto.below hd0)).mono ?_; rintro e w1 ⟨rfl, t1⟩))
     refine hK.out _ _ ?_ (fun hHeld => ?_)
     · (exact ⟨(t1.cell (by simp; omega) hqF).trans q1, (t1.cell (by simp; omega) hqF).trans q2⟩)
     clear hK K
     try simp only [Act.put, List.setIfInBounds_toArray, List.set_cons_zero, List.set_cons_succ])
    refine HT.tail (by kernel_rfl) ?_
    simp only [List.drop_succ_cons, List.drop_zero]
    have hr1 := hra.out _ _ (hA.trans (hd0.mono (by omega))) t1
    clear hHeld q0 q1 q2
    replace t1 := Lib.hid t1
    go_wp2_with fail
    refine (ref07_Put c G N s hok (name, data) w1 hr1).mono ?_
    rintro e w2 ⟨rfl, t2⟩
    have hh := Lib.hid (hfin.out _ _ _ (hA.trans (hd0.mono (by omega))) t1.out t2)
    have hz := hzz.out (s.put (name, data)).2
    clear t2 hfin hra
    go_wp2_with fail
    go_ret
    exact ⟨rfl, hres.out ▸ hh.out⟩
  by_cases e1 : kind = 1
  · subst e1
    have hres : Hid (s.act ⟨1, name, data, kA, kn, kc, ⟨fk, fs, fn, fa, fc⟩, keep⟩ = s) := rfl
    have q1 := x0 1
    have q0 := x0 0
    have hfin := Lib.hid fun W (hW : Below w.heap.size w W) => (PairTo.same h hW).more (Nat.le_succ N) hN
    have hG := Lib.hid fun W (hW : Below w.heap.size w W) => store_Get b F N s name hn W (h.sto.below hW)
    have hR := Lib.hid fun W (hW : Below w.heap.size w W) => ref07_Get c G N s hok name W (h.ref.below hW)
    have hz := hzz.out (s.get name).2
    have hz1 : ((s.get name).1.toList == (s.get name).1.toList) = true := by simp
    clear x0 hw h h0 e0
    go_enter Try.func10, Try.ntmps10
    go_upto_region 5 with fail
    generalize (w.alloc (.cells #[.int .u8 1, .string name, .string data, .slice kA kn kc, .int .u8 fk, .int .i64 fs, .int .i64 fn, .int .i64 fa, .int .i64 fc] 35)) = w0 at hA q0 q1 hz0 ⊢
    simp at q0 q1
    go_wp2_with fail
    refine (hG.out w0 hA).mono ?_
    rintro e w1 ⟨rfl, rfl⟩
    go_wp2_with fail
    refine (hR.out w1 hA).mono ?_
    rintro e w2 ⟨rfl, b2⟩
    go_wp2_with fail
    go_ret
    exact ⟨rfl, hres.out ▸ hfin.out w2 (hA.trans (b2.mono hA.size))⟩
  by_cases e2 : kind = 2
  · subst e2
    have hfin : ∀ w0 w1 w2, Below w.heap.size w w0 → StoTo b F (N + 1) (s.del name).1 w0 w1 → RefTo c G (s.del name).1 w1 w2 → PairTo b F (N + 1) c G (s.del name).1 w w2 := fun w0 w1 w2 k1 k2 k3 => PairTo.done h k1 k2 k3 (del_coh h.coh _)
    have hra : ∀ w0 w1, Below w.heap.size w w0 → StoTo b F (N + 1) (s.del name).1 w0 w1 → RefAt w1 c G s := fun w0 w1 k1 k2 => h.ref_after k1 k2
    have hres : Hid (s.act ⟨2, name, data, kA, kn, kc, ⟨fk, fs, fn, fa, fc⟩, keep⟩ = (s.del name).1) := rfl
    have q1 := x0 1
    have q0 := x0 0
    replace hfin := Lib.hid hfin
    replace hra := Lib.hid hra
    clear x0 hw e0 e1
    go_enter Try.func10, Try.ntmps10
    go_upto_region 9 with fail
    generalize (w.alloc (.cells #[.int .u8 2, .string name, .string data, .slice kA kn kc, .int .u8 fk, .int .i64 fs, .int .i64 fn, .int .i64 fa, .int .i64 fc] 35)) = w0 at hA q0 q1 hz0 h0 ⊢
    simp at q0 q1
    have hd0 : Below w0.heap.size w0 w0.drew := (Below.refl _ _).drew
    refine region_held_tail 9 (fun W : World => W.cell? ⟨w.heap.size, 1, none⟩ = some (.string name)) (by kernel_rfl) (by kernel_rfl) ?_
    have hHeld : (fun W : World => W.cell? ⟨w.heap.size, 1, none⟩ = some (.string name)) w0.drew := q1
    (refine HT.takeL (i := 0) (v := ?_) rfl (by kernel_rfl) (fun _ _ _ h => h) (Or.inl ⟨by rfl, ?_⟩) (by assumption) ?_
     rotate_left
     · (intro w hSw; (try dsimp only at hSw); go_simp; (try with_reducible rfl))
     try simp only [Act.put, List.setIfInBounds_toArray, List.set_cons_zero, List.set_cons_succ])
    (refine HT.takeL (i := 1) (v := ?_) rfl (by kernel_rfl) (fun _ _ _ h => h) (Or.inl ⟨by rfl, ?_⟩) (by assumption) ?_
     rotate_left
     · (intro w hSw; (try dsimp only at hSw); go_simp; (try with_reducible rfl))
     try simp only [Act.put, List.setIfInBounds_toArray, List.set_cons_zero, List.set_cons_succ])
    (refine HT.takeL (i := 2) (v := ?_) rfl (by kernel_rfl) (fun _ _ _ h => h) (Or.inl ⟨by rfl, ?_⟩) (by assumption) ?_
     rotate_left
     · (intro w hSw; (try dsimp only at hSw); go_simp; (try with_reducible rfl))
     try simp only [Act.put, List.setIfInBounds_toArray, List.set_cons_zero, List.set_cons_succ])
    (refine HT.takeL (i := 3) (v := ?_) rfl (by kernel_rfl) (fun _ _ _ h => h) (Or.inl ⟨by rfl, ?_⟩) (by assumption) ?_
     rotate_left
     · (intro w hSw; (try dsimp only at hSw); go_simp; (try with_reducible rfl))
     try simp only [Act.put, List.setIfInBounds_toArray, List.set_cons_zero, List.set_cons_succ])
    (refine HT.takeL (i := 5) (v := ?_) rfl (by kernel_rfl) (fun _ _ _ h => h) (Or.inl ⟨by rfl, ?_⟩) (by assumption) ?_
     rotate_left
     · (intro w hSw; (try dsimp only at hSw); go_simp; (try with_reducible rfl))
     try simp only [Act.put, List.setIfInBounds_toArray, List.set_cons_zero, List.set_cons_succ])
    (refine HT.takeL (i := 6) (v := ?_) rfl (by kernel_rfl) (fun _ _ _ h => h) (Or.inl ⟨by rfl, ?_⟩) (by assumption) ?_
     rotate_left
     · (intro w hSw; (try dsimp only at hSw); go_simp; (try with_reducible rfl))
     try simp only [Act.put, List.setIfInBounds_toArray, List.set_cons_zero, List.set_cons_succ])
    (refine HT.takeL (i := 7) (v := ?_) rfl (by kernel_rfl) (fun _ _ _ h => h) (Or.inl ⟨by rfl, ?_⟩) (by assumption) ?_
     rotate_left
     · (intro w hSw; (try dsimp only at hSw); go_simp; (try with_reducible rfl))
     try simp only [Act.put, List.setIfInBounds_toArray, List.set_cons_zero, List.set_cons_succ])
    (refine HT.takeL (i := 8) (v := ?_) rfl (by kernel_rfl) (fun _ _ _ h => h) (Or.inl ⟨by rfl, ?_⟩) (by assumption) ?_
     rotate_left
     · (intro w hSw; (try dsimp only at hSw); go_simp; (try with_reducible rfl))
     try simp only [Act.put, List.setIfInBounds_toArray, List.set_cons_zero, List.set_cons_succ])
    (refine HT.onlyL (i := 4) rfl (by kernel_rfl) (fun K hK => ?_)
     (go_simp; (refine (store_Del b F N s name hn hN w0.drew (h0.sto.below hd0)).mono ?_; rintro e w1 ⟨rfl, t1⟩))
     refine hK.out _ _ ?_ (fun hHeld => ?_)
     · (exact (t1.cell (by simp; omega) hqF).trans q1)
     clear hK K
     try simp only [Act.put, List.setIfInBounds_toArray, List.set_cons_zero, List.set_cons_succ])
    refine HT.tail (by kernel_rfl) ?_
    simp only [List.drop_succ_cons, List.drop_zero]
    have hr1 := hra.out _ _ (hA.trans (hd0.mono (by omega))) t1
    clear hHeld q0 q1
    replace t1 := Lib.hid t1
    go_wp2_with fail
    refine (ref07_Del c G N s hok name w1 hr1).mono ?_
    rintro e w2 ⟨rfl, t2⟩
    have hh := Lib.hid (hfin.out _ _ _ (hA.trans (hd0.mono (by omega))) t1.out t2)
    have hz := hzz.out (s.del name).2
    clear t2 hfin hra
    go_wp2_with fail
    go_ret
    exact ⟨rfl, hres.out ▸ hh.out⟩
  by_cases e3 : kind = 3
  · subst e3
    have hres : Hid (s.act ⟨3, name, data, kA, kn, kc, ⟨fk, fs, fn, fa, fc⟩, keep⟩ = s) := rfl
    have q0 := x0 0
    have hfin := Lib.hid fun W (hW : Below w.heap.size w W) => (PairTo.same h hW).more (Nat.le_succ N) hN
    have hG := Lib.hid fun W (hW : Below w.heap.size w W) => store_List b F N s W (h.sto.below hW)
    have hR := Lib.hid fun W (hW : Below w.heap.size w W) => ref07_List c G N s hok W (h.ref.below hW)
    have hz := hzz.out s.list.2
    clear x0 hw h h0 e0 e1 e2
    go_enter Try.func10, Try.ntmps10
    go_upto_region 11 with fail
    generalize (w.alloc (.cells #[.int .u8 3, .string name, .string data, .slice kA kn kc, .int .u8 fk, .int .i64 fs, .int .i64 fn, .int .i64 fa, .int .i64 fc] 35)) = w0 at hA q0 hz0 ⊢
    simp at q0
    go_wp2_with fail
    refine (hG.out w0 hA).mono ?_
    rintro e w1 ⟨v1, rfl, o1, b1⟩
    obtain ⟨A1, m1, c1, rfl⟩ : ∃ A m c, v1 = .slice A m c := by obtain ⟨A, c, e⟩ := Owns.form o1; exact ⟨A, _, c, e⟩
    have r1 := Owns.row (k := 1) (fun x => strE.len x) o1
    have y1 := hA.trans (b1.mono hA.size)
    go_wp2_with fail
    refine (hR.out w1 y1).mono ?_
    rintro e w2 ⟨v2, rfl, o2, b2⟩
    obtain ⟨A2, m2, c2, rfl⟩ : ∃ A m c, v2 = .slice A m c := by obtain ⟨A, c, e⟩ := Owns.form o2; exact ⟨A, _, c, e⟩
    have r2 := Owns.row (k := 1) (fun x => strE.len x) o2
    have y2 := y1.trans (b2.mono y1.size)
    go_wp2_with fail
    refine (law07_texts A1 m1 c1 A2 m2 c2 s.list.1 w2 (r1.to b2) r2).mono ?_
    rintro e w3 ⟨rfl, b3⟩
    have y3 := y2.trans (b3.mono y2.size)
    go_wp2_with fail
    go_ret
    exact ⟨rfl, hres.out ▸ hfin.out w3 y3⟩
  by_cases e4 : kind = 4
  · subst e4
    have hfin : ∀ w0 w1 w2, Below w.heap.size w w0 → StoTo b F N s.sync.1 w0 w1 → RefTo c G s.sync.1 w1 w2 → PairTo b F (N + 1) c G s.sync.1 w w2 := fun w0 w1 w2 k1 k2 k3 => (PairTo.done h k1 k2 k3 (sync_coh h.coh)).more (Nat.le_succ N) hN
    have hra : ∀ w0 w1, Below w.heap.size w w0 → StoTo b F N s.sync.1 w0 w1 → RefAt w1 c G s := fun w0 w1 k1 k2 => h.ref_after k1 k2
    have hres : Hid (s.act ⟨4, name, data, kA, kn, kc, ⟨fk, fs, fn, fa, fc⟩, keep⟩ = s.sync.1) := rfl
    have q0 := x0 0
    replace hfin := Lib.hid hfin
    replace hra := Lib.hid hra
    clear x0 hw e0 e1 e2 e3
    go_enter Try.func10, Try.ntmps10
    go_upto_region 15 with fail
    generalize (w.alloc (.cells #[.int .u8 4, .string name, .string data, .slice kA kn kc, .int .u8 fk, .int .i64 fs, .int .i64 fn, .int .i64 fa, .int .i64 fc] 35)) = w0 at hA q0 hz0 h0 ⊢
    simp at q0
    go_wp2_with fail
    refine (store_Sync b F N s w0 h0.sto).mono ?_
    rintro e w1 ⟨rfl, t1⟩
    have hr1 := hra.out _ _ hA t1
    clear q0
    replace t1 := Lib.hid t1
    go_wp2_with fail
    refine (ref07_Sync c G N s hok w1 hr1).mono ?_
    rintro e w2 ⟨rfl, t2⟩
    have hh := Lib.hid (hfin.out _ _ _ hA t1.out t2)
    have hz := hzz.out s.sync.2
    clear t2 hfin hra
    go_wp2_with fail
    go_ret
    exact ⟨rfl, hres.out ▸ hh.out⟩
  by_cases e5 : kind = 5
  · subst e5
    have hfin : ∀ w0 w1 w2, Below w.heap.size w w0 → RefTo c G (s.crash keep) w0 w1 → StoTo b F N (s.crash keep) w1 w2 → PairTo b F (N + 1) c G (s.crash keep) w w2 := fun w0 w1 w2 k1 k2 k3 => (PairTo.done' h k1 k2 k3 (crash_coh s keep)).more (Nat.le_succ N) hN
    have hra : ∀ w0 w1, Below w.heap.size w w0 → RefTo c G (s.crash keep) w0 w1 → StoAt w1 b F N s := fun w0 w1 k1 k2 => h.sto_after k1 k2
    have hres : Hid (s.act ⟨5, name, data, kA, kn, kc, ⟨fk, fs, fn, fa, fc⟩, keep⟩ = s.crash keep) := rfl
    have q0 := x0 0
    have q3 := x0 3
    replace hfin := Lib.hid hfin
    replace hra := Lib.hid hra
    clear x0 hw e0 e1 e2 e3 e4
    go_enter Try.func10, Try.ntmps10
    go_upto_region 17 with fail
    generalize (w.alloc (.cells #[.int .u8 5, .string name, .string data, .slice kA kn kc, .int .u8 fk, .int .i64 fs, .int .i64 fn, .int .i64 fa, .int .i64 fc] 35)) = w0 at hA q0 q3 hz0 h0 ⊢
    simp at q0 q3
    go_wp2_with fail
    refine (ref07_Crash c G N s hok kA kn kc keep w0 h0.ref (hk.to hA) hkG).mono ?_
    rintro e w1 ⟨rfl, t1⟩
    have hk1 : IntsAt w1 w1.heap.size kA kn keep := by
      obtain ⟨F', _, g2, _⟩ := t1
      exact ((hk.to hA).but0 g2 (Nat.le_refl _) hkG).more g2.size
    have hs1 := hra.out _ _ hA t1
    have q3' := (t1.cell (o := 3) (by omega) hqG).trans q3
    clear q0 q3
    replace t1 := Lib.hid t1
    go_wp2_with fail
    refine (store_Crash b F N s kA kn kc keep w1 hs1 hk1).mono ?_
    rintro e w2 ⟨rfl, t2⟩
    have hh := Lib.hid (hfin.out _ _ _ hA t1.out t2)
    clear t2 hfin hra
    go_wp2_with fail
    go_ret
    exact ⟨rfl, hres.out ▸ hh.out⟩
  have hfin : ∀ w0 w1 w2, Below w.heap.size w w0 → StoTo b F (N + 1) (s.strike ⟨fk, fs, fn, fa, fc⟩).1 w0 w1 → RefTo c G (s.strike ⟨fk, fs, fn, fa, fc⟩).1 w1 w2 → PairTo b F (N + 1) c G (s.strike ⟨fk, fs, fn, fa, fc⟩).1 w w2 := fun w0 w1 w2 k1 k2 k3 => PairTo.done h k1 k2 k3 (strike_coh h.coh _)
  have hra : ∀ w0 w1, Below w.heap.size w w0 → StoTo b F (N + 1) (s.strike ⟨fk, fs, fn, fa, fc⟩).1 w0 w1 → RefAt w1 c G s := fun w0 w1 k1 k2 => h.ref_after k1 k2
  have hres : Hid (s.act ⟨kind, name, data, kA, kn, kc, ⟨fk, fs, fn, fa, fc⟩, keep⟩ = (s.strike ⟨fk, fs, fn, fa, fc⟩).1) := by
    unfold Hid Sto.act
    dsimp only
    rw [if_neg e0, if_neg e1, if_neg e2, if_neg e3, if_neg e4, if_neg e5]
  have i0 : (kind == 0) = false := by simpa using e0
  have i1 : (kind == 1) = false := by simpa using e1
  have i2 : (kind == 2) = false := by simpa using e2
  have i3 : (kind == 3) = false := by simpa using e3
  have i4 : (kind == 4) = false := by simpa using e4
  have i5 : (kind == 5) = false := by simpa using e5
  have q0 := x0 0
  have q4 := x0 4
  have q5 := x0 5
  have q6 := x0 6
  have q7 := x0 7
  have q8 := x0 8
  replace hfin := Lib.hid hfin
  replace hra := Lib.hid hra
  clear x0 hw e0 e1 e2 e3 e4 e5
  go_enter Try.func10, Try.ntmps10
  go_upto_region 19 with fail
  generalize (w.alloc (.cells #[.int .u8 kind, .string name, .string data, .slice kA kn kc, .int .u8 fk, .int .i64 fs, .int .i64 fn, .int .i64 fa, .int .i64 fc] 35)) = w0 at hA q0 q4 q5 q6 q7 q8 hz0 h0 ⊢
  simp at q0 q4 q5 q6 q7 q8
  have hd0 : Below w0.heap.size w0 w0.drew := (Below.refl _ _).drew
  refine region_held_tail 7 (fun W : World => W.cell? ⟨w.heap.size, 4, none⟩ = some (.int .u8 fk) ∧ W.cell? ⟨w.heap.size, 5, none⟩ = some (.int .i64 fs) ∧ W.cell? ⟨w.heap.size, 6, none⟩ = some (.int .i64 fn) ∧ W.cell? ⟨w.heap.size, 7, none⟩ = some (.int .i64 fa) ∧ W.cell? ⟨w.heap.size, 8, none⟩ = some (.int .i64 fc)) (by kernel_rfl) (by kernel_rfl) ?_
  have hHeld : (fun W : World => W.cell? ⟨w.heap.size, 4, none⟩ = some (.int .u8 fk) ∧ W.cell? ⟨w.heap.size, 5, none⟩ = some (.int .i64 fs) ∧ W.cell? ⟨w.heap.size, 6, none⟩ = some (.int .i64 fn) ∧ W.cell? ⟨w.heap.size, 7, none⟩ = some (.int .i64 fa) ∧ W.cell? ⟨w.heap.size, 8, none⟩ = some (.int .i64 fc)) w0.drew := ⟨q4, q5, q6, q7, q8⟩
  (refine HT.takeL (i := 0) (v := ?_) rfl (by kernel_rfl) (fun _ _ _ h => h) (Or.inl ⟨by rfl, ?_⟩) (by assumption) ?_
   rotate_left
   · (intro w hSw; (try dsimp only at hSw); go_simp; (try with_reducible rfl))
   try simp only [Act.put, List.setIfInBounds_toArray, List.set_cons_zero, List.set_cons_succ])
  (refine HT.takeL (i := 1) (v := ?_) rfl (by kernel_rfl) (fun _ _ _ h => h) (Or.inl ⟨by rfl, ?_⟩) (by assumption) ?_
   rotate_left
   · (intro w hSw; (try dsimp only at hSw); go_simp; (try with_reducible rfl))
   try simp only [Act.put, List.setIfInBounds_toArray, List.set_cons_zero, List.set_cons_succ])
  (refine HT.takeL (i := 2) (v := ?_) rfl (by kernel_rfl) (fun _ _ _ h => h) (Or.inl ⟨by rfl, ?_⟩) (by assumption) ?_
   rotate_left
   · (intro w hSw; (try dsimp only at hSw); go_simp; (try with_reducible rfl))
   try simp only [Act.put, List.setIfInBounds_toArray, List.set_cons_zero, List.set_cons_succ])
  (refine HT.takeL (i := 4) (v := ?_) rfl (by kernel_rfl) (fun _ _ _ h => h) (Or.inl ⟨by rfl, ?_⟩) (by assumption) ?_
   rotate_left
   · (intro w hSw; (try dsimp only at hSw); go_simp; (try with_reducible rfl))
   try simp only [Act.put, List.setIfInBounds_toArray, List.set_cons_zero, List.set_cons_succ])
  (refine HT.takeL (i := 5) (v := ?_) rfl (by kernel_rfl) (fun _ _ _ h => h) (Or.inl ⟨by rfl, ?_⟩) (by assumption) ?_
   rotate_left
   · (intro w hSw; (try dsimp only at hSw); go_simp; (try with_reducible rfl))
   try simp only [Act.put, List.setIfInBounds_toArray, List.set_cons_zero, List.set_cons_succ])
  (refine HT.takeL (i := 6) (v := ?_) rfl (by kernel_rfl) (fun _ _ _ h => h) (Or.inl ⟨by rfl, ?_⟩) (by assumption) ?_
   rotate_left
   · (intro w hSw; (try dsimp only at hSw); go_simp; (try with_reducible rfl))
   try simp only [Act.put, List.setIfInBounds_toArray, List.set_cons_zero, List.set_cons_succ])
  (refine HT.onlyL (i := 3) rfl (by kernel_rfl) (fun K hK => ?_)
   (go_simp; (refine (store_Strike b F N s ⟨fk, fs, fn, fa, fc⟩ hfit hN w0.drew (h0.sto.below hd0)).mono ?_; rintro e w1 ⟨rfl, t1⟩))
   refine hK.out _ _ ?_ (fun hHeld => ?_)
   · (exact ⟨(t1.cell (by simp; omega) hqF).trans q4, (t1.cell (by simp; omega) hqF).trans q5, (t1.cell (by simp; omega) hqF).trans q6, (t1.cell (by simp; omega) hqF).trans q7, (t1.cell (by simp; omega) hqF).trans q8⟩)
   clear hK K
   try simp only [Act.put, List.setIfInBounds_toArray, List.set_cons_zero, List.set_cons_succ])
  refine HT.tail (by kernel_rfl) ?_
  simp only [List.drop_succ_cons, List.drop_zero]
  have hr1 := hra.out _ _ (hA.trans (hd0.mono (by omega))) t1
  clear hHeld q0 q4 q5 q6 q7 q8
  replace t1 := Lib.hid t1
  go_wp2_with fail
  refine (ref07_Strike c G N s hok ⟨fk, fs, fn, fa, fc⟩ w1 hr1).mono ?_
  rintro e w2 ⟨rfl, t2⟩
  have hh := Lib.hid (hfin.out _ _ _ (hA.trans (hd0.mono (by omega))) t1.out t2)
  have hz := hzz.out (s.strike ⟨fk, fs, fn, fa, fc⟩).2
  clear t2 hfin hra
  go_wp2_with fail
  go_ret
  exact ⟨rfl, hres.out ▸ hh.out⟩
end Go.Proofs.Ytfkonpmnclknaaa
