/-
  The two worlds beside a copy of the program's.
-/
import Derived.Test.YtfkonpmnclknaaaGreatWldP
namespace Go.Proofs.YtfkonpmnclknaaaGreat
open Go.RowKit
attribute [local go_sem ↓] Go.wp_at_zero Go.wp_at_succ

def Trio (B : Nat) (w wr : World) (b N c : Nat) (m x : Wld) (cb M : Nat) (mc : Wld) : Prop :=
  ∃ X Y Z, WTwo wr b X N c Y m x ∧ (∀ i ∈ X ++ Y, B ≤ i) ∧ Below B w wr ∧ m.stores.length = 3 ∧ x.stores.length = 3 ∧ WldAt wr cb Z M mc ∧ ∀ i ∈ X ++ Y, i ∉ Z
section
variable {B b N M K c cb : Nat} {m x m' x' mc : Wld} {w wr w' w1 w2 w3 : World}
theorem Trio.both (h : Trio B w wr b N c m x cb M mc) : Both B w wr b N c m x := by
  obtain ⟨X, Y, Z, h1, h2, h3, h4, h5, h6, h7⟩ := h
  exact ⟨X, Y, h1, h2, h3, h4, h5⟩
theorem Trio.copy (h : Trio B w wr b N c m x cb M mc) : ∃ Z, WldAt wr cb Z M mc := by
  obtain ⟨X, Y, Z, h1, h2, h3, h4, h5, h6, h7⟩ := h
  exact ⟨Z, h6⟩
theorem Trio.below (h : Trio B w wr b N c m x cb M mc) (hB : B ≤ w.heap.size) (hb : Below wr.heap.size wr w') : Trio B w w' b N c m x cb M mc := by
  obtain ⟨X, Y, Z, h1, h2, h3, h4, h5, h6, h7⟩ := h
  exact ⟨X, Y, Z, h1.below hb, h2, h3.trans (hb.mono (Nat.le_trans hB h3.size)), h4, h5, h6.below hb, h7⟩
theorem Trio.more (h : Trio B w wr b N c m x cb M mc) (hM : N ≤ K) (hc : K ≤ 1000000) : Trio B w wr b K c m x cb M mc := by
  obtain ⟨X, Y, Z, h1, h2⟩ := h
  exact ⟨X, Y, Z, h1.more hM hc, h2⟩
theorem Trio.from {X Y Z : List Nat} (h2 : ∀ i ∈ X ++ Y, B ≤ i) (h3 : Below B w wr) (hB : B ≤ w.heap.size) (h6 : WldAt wr cb Z M mc) (h7 : ∀ i ∈ X ++ Y, i ∉ Z) (k : WTo b X K c Y m' x' wr w') (h4 : m'.stores.length = 3) (h5 : x'.stores.length = 3) : Trio B w w' b K c m' x' cb M mc := by
  obtain ⟨X1, Y1, k1, k2, k3, k4, k5⟩ := WTo.step h2 k (Nat.le_trans hB h3.size)
  refine ⟨X1, Y1, Z, k1, k2, h3.trans k3, h4, h5, h6.but k4 fun i hi hf => h7 i hf hi, fun i hi hf => ?_⟩
  rcases k5 i hi with e | e
  · exact h7 i e hf
  · have := h6.lt i hf
    omega
theorem Both.copied (h : Both B w wr b N c m x) (hB : B ≤ w.heap.size) :
    Calls Tryz.prog 28 #[.pointer (some ⟨b, 0, none⟩)] wr fun e w' => ∃ cb, e = .returned (.pointer (some ⟨cb, 0, none⟩)) ∧ Trio B w w' b N c m x cb N m := by
  obtain ⟨X, Y, h1, h2, h3, h4, h5⟩ := h
  refine (world_Copy b N X m wr h1.p h1.nm).mono ?_
  rintro e w' ⟨rfl, Z, k1, k2, k3⟩
  exact ⟨_, rfl, X, Y, Z, h1.below k2, h2, h3.trans (k2.mono (Nat.le_trans hB h3.size)), h4, h5, k1, fun i hi hf => by have := k3 i hf; have := h1.lt i hi; omega⟩
theorem Trio.do_ {a : Stepx} (h : Trio B w wr b N c m x cb M mc) (hB : B ≤ w.heap.size) (ha : StepOk wr B a) (hN : N + 1 ≤ 1000000) :
    Calls Tryz.prog 13 #[a.agg, .pointer (some ⟨b, 0, none⟩), .pointer (some ⟨c, 0, none⟩)] wr fun e w' => ∃ R, e = .returned (.bool R) ∧ Trio B w w' b (N + 1) c (m.step a) (x.step a) cb M mc := by
  obtain ⟨X, Y, Z, h1, h2, h3, h4, h5, h6, h7⟩ := h
  refine (law08_do b N c X Y m x a B wr hN h1 ha (Nat.le_trans hB h3.size) h2).mono ?_
  rintro e w' ⟨R, rfl, k1, k2⟩
  exact ⟨R, rfl, Trio.from h2 h3 hB h6 h7 k2 (by rw [step_len]; exact h4) (by rw [step_len]; exact h5)⟩
theorem Trio.doBox {a : Stepx} {W : World} {q : Nat} (h : Trio B w wr b N c m x cb M mc) (hB : B ≤ w.heap.size) (hW : Below wr.heap.size wr W) (hq : wr.heap.size ≤ q) (hq2 : q < W.heap.size) (ha : StepOk W B a) (hN : N + 1 ≤ 1000000) :
    Calls Tryz.prog 13 #[a.agg, .pointer (some ⟨b, 0, none⟩), .pointer (some ⟨c, 0, none⟩)] W fun e w' => ∃ R, e = .returned (.bool R) ∧ Trio B w w' b (N + 1) c (m.step a) (x.step a) cb M mc ∧ w'.heap[q]? = W.heap[q]? := by
  have hlt : ∀ X Y, WTwo wr b X N c Y m x → q ∉ X ++ Y := fun X Y k hi => by have := k.lt q hi; omega
  have hT := h.below hB hW
  obtain ⟨X, Y, Z, h1, h2, h3, h4, h5, h6, h7⟩ := h
  have y3 := h3.trans (hW.mono (Nat.le_trans hB h3.size))
  refine (law08_do b N c X Y m x a B W hN (h1.below hW) ha (Nat.le_trans hB y3.size) h2).mono ?_
  rintro e w' ⟨R, rfl, k1, k2⟩
  refine ⟨R, rfl, Trio.from h2 y3 hB (h6.below hW) h7 k2 (by rw [step_len]; exact h4) (by rw [step_len]; exact h5), ?_⟩
  obtain ⟨_, _, _, k4, _⟩ := k2
  exact k4.block q hq2 (hlt X Y h1)
theorem Trio.sync (h : Trio B w wr b N c m x cb M mc) (hB : B ≤ w.heap.size) (i : Int) (hN : N + 1 ≤ 1000000) :
    Calls Tryz.prog 15 #[.pointer (some ⟨b, 0, none⟩), .int .i64 i] wr fun e w' => e = .returned (.int .i64 (m.err i fun s => s.sync.2)) ∧ Trio B w w' b (N + 1) c (m.go i fun s => s.sync.1) x cb M mc := by
  obtain ⟨X, Y, Z, h1, h2, h3, h4, h5, h6, h7⟩ := h
  have hcm := h1.cm
  refine (world_Sync b N X m i wr h1.p (by omega) (by omega)).mono ?_
  rintro e w' ⟨rfl, t1⟩
  have hc9 := go_calls m i fun s => s.sync.1
  have h1' := h1.more (Nat.le_succ N) hN
  exact ⟨rfl, Trio.from h2 h3 hB h6 h7 (WTo.done h1 (Below.refl _ _) (t1.more (Nat.le_succ N) hN) (RWTo.same (h1.ref_after (Below.refl _ _) t1) (Below.refl _ _)) h1'.ok (by omega) h1'.cx (by rw [go_len]; exact h1.nm) h1.nx) (by rw [go_len]; exact h4) h5⟩
theorem WldAt.objs {X : List Nat} {i : Int} (h : WldAt wr b X N m) :
    Calls Tryz.prog 31 #[.pointer (some ⟨b, 0, none⟩), .int .i64 i] wr fun e w' => ∃ A n k, e = .returned (.slice A n k) ∧ ObsAt w' w'.heap.size A n (m.objs i) ∧ Below wr.heap.size wr w' := by
  refine (world_Objects b N X m i wr h).mono ?_
  rintro e w' ⟨v, rfl, ho, hb⟩
  obtain ⟨A, n, k, rfl⟩ : ∃ A n k, v = .slice A n k := by obtain ⟨A, k, e⟩ := Owns.form ho; exact ⟨A, _, k, e⟩
  exact ⟨A, n, k, rfl, Owns.row (k := 2) (fun x => objE.len x) ho, hb⟩
theorem WldAt.ups {X : List Nat} {i : Int} (h : WldAt wr b X N m) :
    Calls Tryz.prog 27 #[.pointer (some ⟨b, 0, none⟩), .int .i64 i] wr fun e w' => e = .returned (.bool (m.up i)) ∧ wr = w' := by
  refine (world_Up b N X m i wr h).mono ?_
  rintro e w' ⟨rfl, rfl⟩
  exact ⟨rfl, rfl⟩
theorem Trio.objs (h : Trio B w wr b N c m x cb M mc) (hB : B ≤ w.heap.size) (i : Int) :
    Calls Tryz.prog 31 #[.pointer (some ⟨b, 0, none⟩), .int .i64 i] wr fun e w' => ∃ A n k, e = .returned (.slice A n k) ∧ ObsAt w' w'.heap.size A n (m.objs i) ∧ Below wr.heap.size wr w' ∧ Trio B w w' b N c m x cb M mc := by
  have h0 := h
  obtain ⟨X, Y, Z, h1, h2, h3, h4, h5, h6, h7⟩ := h
  refine (WldAt.objs (i := i) h1.p).mono ?_
  rintro e w' ⟨A, n, k, rfl, k1, k2⟩
  exact ⟨A, n, k, rfl, k1, k2, h0.below hB k2⟩
theorem Trio.objsC (h : Trio B w wr b N c m x cb M mc) (hB : B ≤ w.heap.size) (i : Int) :
    Calls Tryz.prog 31 #[.pointer (some ⟨cb, 0, none⟩), .int .i64 i] wr fun e w' => ∃ A n k, e = .returned (.slice A n k) ∧ ObsAt w' w'.heap.size A n (mc.objs i) ∧ Below wr.heap.size wr w' ∧ Trio B w w' b N c m x cb M mc := by
  have h0 := h
  obtain ⟨X, Y, Z, h1, h2, h3, h4, h5, h6, h7⟩ := h
  refine (WldAt.objs (i := i) h6).mono ?_
  rintro e w' ⟨A, n, k, rfl, k1, k2⟩
  exact ⟨A, n, k, rfl, k1, k2, h0.below hB k2⟩
theorem Trio.ups (h : Trio B w wr b N c m x cb M mc) (i : Int) :
    Calls Tryz.prog 27 #[.pointer (some ⟨b, 0, none⟩), .int .i64 i] wr fun e w' => e = .returned (.bool (m.up i)) ∧ wr = w' := by
  obtain ⟨X, Y, Z, h1, h2, h3, h4, h5, h6, h7⟩ := h
  exact WldAt.ups h1.p
theorem Trio.upsC (h : Trio B w wr b N c m x cb M mc) (i : Int) :
    Calls Tryz.prog 27 #[.pointer (some ⟨cb, 0, none⟩), .int .i64 i] wr fun e w' => e = .returned (.bool (mc.up i)) ∧ wr = w' := by
  obtain ⟨X, Y, Z, h1, h2, h3, h4, h5, h6, h7⟩ := h
  exact WldAt.ups h6
theorem Both.prog (h : Both B w wr b N c m x) : ∃ X, WldAt wr b X N m := by
  obtain ⟨X, Y, h1, h2, h3, h4, h5⟩ := h
  exact ⟨X, h1.p⟩
theorem Both.ref (h : Both B w wr b N c m x) : ∃ Y, RWAt wr c Y x := by
  obtain ⟨X, Y, h1, h2, h3, h4, h5⟩ := h
  exact ⟨Y, h1.r⟩
end

/-- A store that is left as it is. -/
theorem objs_of {m m' : Wld} {i : Int} (hl : m.stores.length = m'.stores.length) (hs : m.stores[i.toNat]? = m'.stores[i.toNat]?) : m.objs i = m'.objs i ∧ m.up i = m'.up i := by
  unfold Wld.objs Wld.up Wld.has
  rw [hl, hs]
  exact ⟨rfl, rfl⟩
theorem put_apart {m : Wld} {i k : Nat} {s : Sto} (h : i ≠ k) : (m.put i s).stores[k]? = m.stores[k]? := by
  rw [put_at]
  simp [h]
theorem go_apart {m : Wld} {i : Int} {g : Sto → Sto} {k : Nat} (h : i ≠ k) : (m.go i g).stores[k]? = m.stores[k]? := by
  unfold Wld.go
  split
  · rename_i hh
    obtain ⟨j, rfl, hj, ht⟩ := has_at hh
    split
    · rfl
    · split
      · rw [put_apart (by rw [ht]; omega)]; rfl
      · rfl
  · rfl
theorem strike_apart {m : Wld} {f : Flt} {k : Nat} (h : f.store ≠ k) : (m.strike f).1.stores[k]? = m.stores[k]? := by
  unfold Wld.strike
  split
  · rename_i hh
    obtain ⟨j, hj1, hj, ht⟩ := has_at hh
    have hne : f.store.toNat ≠ k := by omega
    split
    · split
      · split
        · exact put_apart hne
        · rw [mark_at, put_apart hne]
          simp [hne]
      · exact put_apart hne
    · rfl
  · rfl
theorem step_apart {m : Wld} {a : Stepx} {n k : Nat} (hi : a.i = n) (hf : a.f.store = n) (h5 : a.kind ≠ 5) (h6 : a.kind ≠ 6) (h7 : a.kind ≤ 7) (h0 : 0 ≤ a.kind) (hk : n ≠ k) : (m.step a).stores[k]? = m.stores[k]? := by
  have hi' : a.i ≠ k := by omega
  have hf' : a.f.store ≠ k := by omega
  unfold Wld.step
  by_cases e0 : a.kind = 0
  · rw [if_pos e0]; exact go_apart hi'
  rw [if_neg e0]
  by_cases e1 : a.kind = 1
  · rw [if_pos e1]; exact go_apart hi'
  rw [if_neg e1]
  by_cases e2 : a.kind = 2
  · rw [if_pos e2]; exact go_apart hi'
  rw [if_neg e2]
  by_cases e3 : a.kind = 3
  · rw [if_pos e3]; exact go_apart hi'
  rw [if_neg e3]
  by_cases e4 : a.kind = 4
  · rw [if_pos e4]; exact go_apart hi'
  rw [if_neg e4, if_neg h5, if_neg h6, if_pos (by omega)]
  exact strike_apart hf'
/-- While the power is gone a call is counted, and nothing else. -/
theorem step_dark {m : Wld} {a : Stepx} (hk0 : 0 ≤ a.kind) (hk : a.kind ≤ 4) (h : m.has a.i = true) (hd : m.tick.dark = true) : m.step a = m.tick := by
  have key : ∀ g, m.go a.i g = m.tick := fun g => go_dark h hd
  unfold Wld.step
  by_cases e0 : a.kind = 0
  · rw [if_pos e0]; exact key _
  rw [if_neg e0]
  by_cases e1 : a.kind = 1
  · rw [if_pos e1]; exact key _
  rw [if_neg e1]
  by_cases e2 : a.kind = 2
  · rw [if_pos e2]; exact key _
  rw [if_neg e2]
  by_cases e3 : a.kind = 3
  · rw [if_pos e3]; exact key _
  rw [if_neg e3, if_pos (by omega)]
  exact key _
end Go.Proofs.YtfkonpmnclknaaaGreat
