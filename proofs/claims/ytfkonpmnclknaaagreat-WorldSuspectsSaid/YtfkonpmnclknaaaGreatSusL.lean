/-
  Which stores are suspect: the plain law; the two worlds beside blocks of a caller's.
-/
import Derived.Test.YtfkonpmnclknaaaGreatWldQ
namespace Go.Proofs.YtfkonpmnclknaaaGreat
open Go.RowKit
attribute [local go_sem ↓] Go.wp_at_zero Go.wp_at_succ

theorem susp_at (m : Wld) (k : Nat) : m.susp[k]? = (m.stores[k]?).map Prod.snd := by unfold Wld.susp; rw [List.getElem?_map]
theorem susp_go {m : Wld} {i : Int} {g : Sto → Sto} : (m.go i g).susp = m.susp := by
  unfold Wld.go
  split
  · split
    · rfl
    · split
      · rw [susp_put]; rfl
      · rfl
  · rfl
theorem susp_cut {m : Wld} {n : Int} : (m.cut n).1.susp = m.susp := by unfold Wld.cut; split <;> rfl
theorem susp_crash {m : Wld} {ks : List (List Int)} : (m.crash ks).susp = m.susp := List.ext_getElem? fun k => by
  rw [susp_at, susp_at]
  show ((m.crashTo ks m.stores.length).stores[k]?).map Prod.snd = _
  rw [crashTo_at]
  cases m.stores[k]? with
  | none => rfl
  | some p => simp; split <;> rfl
/-- A strike marks its store, if it is one that was done, and no Up and no Room. -/
theorem susp_strike (m : Wld) (f : Flt) : ((m.strike f).2 = 0 → (0 ≤ f.store ∧ f.store < m.stores.length)) ∧ (((m.strike f).2 = 0 ∧ f.kind ≠ 5 ∧ f.kind ≠ 7) → (m.strike f).1.susp = m.susp.set f.store.toNat true) ∧ (¬ ((m.strike f).2 = 0 ∧ f.kind ≠ 5 ∧ f.kind ≠ 7) → (m.strike f).1.susp = m.susp) := by
  unfold Wld.strike
  by_cases hh : m.has f.store = true
  · obtain ⟨j, hj1, hj, ht⟩ := has_at hh
    have hx : m.stores[f.store.toNat]? = some (m.stores[f.store.toNat]'(by omega)) := List.getElem?_eq_getElem (by omega)
    rw [if_pos hh, hx]
    dsimp only
    generalize m.stores[f.store.toNat] = p
    refine ⟨fun _ => by omega, ?_⟩
    by_cases h0 : (p.1.strike f).2 = 0
    · rw [if_pos h0]
      by_cases hk : f.kind = 5 ∨ f.kind = 7
      · rw [if_pos hk]
        exact ⟨fun h => by rcases hk with e | e <;> simp [e] at h, fun _ => susp_put _ _ _⟩
      · rw [if_neg hk]
        exact ⟨fun _ => by show ((m.put _ _).mark _ true).susp = _; rw [susp_mark, susp_put], fun h => (h ⟨rfl, fun e => hk (.inl e), fun e => hk (.inr e)⟩).elim⟩
    · rw [if_neg h0]
      exact ⟨fun h => (h0 h.1).elim, fun _ => susp_put _ _ _⟩
  · rw [if_neg hh]
    exact ⟨fun h => by simp at h, fun h => by simp at h, fun _ => rfl⟩
theorem susp_low {m : Wld} {a : Stepx} (h7 : a.kind ≠ 7) (h8 : a.kind ≤ 7) (h0 : 0 ≤ a.kind) : (m.step a).susp = m.susp := by
  unfold Wld.step
  by_cases e0 : a.kind = 0
  · rw [if_pos e0]; exact susp_go
  rw [if_neg e0]
  by_cases e1 : a.kind = 1
  · rw [if_pos e1]; exact susp_go
  rw [if_neg e1]
  by_cases e2 : a.kind = 2
  · rw [if_pos e2]; exact susp_go
  rw [if_neg e2]
  by_cases e3 : a.kind = 3
  · rw [if_pos e3]; exact susp_go
  rw [if_neg e3]
  by_cases e4 : a.kind = 4
  · rw [if_pos e4]; exact susp_go
  rw [if_neg e4]
  by_cases e5 : a.kind = 5
  · rw [if_pos e5]; exact susp_cut
  rw [if_neg e5, if_pos (by omega)]
  exact susp_crash
theorem step_strike {m : Wld} {a : Stepx} (h7 : a.kind = 7) : m.step a = (m.strike a.f).1 := by
  unfold Wld.step
  simp [h7]
theorem step_clear {m : Wld} {a : Stepx} (h7 : 7 < a.kind) : m.step a = m.clear := by
  unfold Wld.step
  rw [if_neg (by omega), if_neg (by omega), if_neg (by omega), if_neg (by omega), if_neg (by omega), if_neg (by omega), if_neg (by omega), if_neg (by omega)]
/-- Clearing: what is suspect now was it; a store that does not answer stays so. -/
theorem susp_clear (m : Wld) (k : Nat) : (m.clear.susp[k]? = some true → m.susp[k]? = some true) ∧ (m.clear.up k = false → m.susp[k]? = some true → m.clear.susp[k]? = some true) := by
  have hs : m.clear.stores[k]? = (m.stores[k]?).map fun p => (p.1, p.2 && !p.1.sound) := by unfold Wld.clear; dsimp only; rw [List.getElem?_map]
  rw [susp_at, susp_at, hs]
  unfold Wld.up Wld.has
  cases hx : m.stores[k]? with
  | none => simp
  | some p =>
    have hk : k < m.stores.length := (List.getElem?_eq_some_iff.1 hx).1
    have hcl : m.clear.stores.length = m.stores.length := clear_len m
    constructor
    · simp
      intro h1 _
      exact h1
    · intro hu hp
      rw [show m.clear.stores[(k : Int).toNat]? = _ from hs, hcl, hx] at hu
      simp [hk] at hu hp ⊢
      refine ⟨hp, ?_⟩
      unfold Sto.sound
      rw [hu]
      rfl
theorem mem_susp (m : Wld) (k : Nat) : (k : Int) ∈ m.suspects ↔ m.susp[k]? = some true := by
  unfold Wld.suspects suspTo
  have hl : m.susp.length = m.stores.length := by unfold Wld.susp; simp
  simp only [List.mem_map, List.mem_filter, List.mem_range]
  constructor
  · rintro ⟨i, ⟨h1, h2⟩, h3⟩
    obtain rfl : i = k := by omega
    rw [List.getD_eq_getElem?_getD] at h2
    rw [List.getElem?_eq_getElem (by omega)] at h2 ⊢
    simpa using h2
  · intro h
    refine ⟨k, ⟨by have := (List.getElem?_eq_some_iff.1 h).1; omega, ?_⟩, rfl⟩
    rw [List.getD_eq_getElem?_getD, h]
    rfl

/-- Blocks that are as they were. -/
structure Kp (Z : List Nat) (w w' : World) : Prop where
  size : w.heap.size ≤ w'.heap.size
  blk : ∀ z ∈ Z, w'.heap[z]? = w.heap[z]?
theorem Kp.trans {Z : List Nat} {w w' w2 : World} (h : Kp Z w w') (k : Kp Z w' w2) : Kp Z w w2 := ⟨Nat.le_trans h.size k.size, fun z hz => (k.blk z hz).trans (h.blk z hz)⟩
theorem Kp.less {Z Z' : List Nat} {w w' : World} (h : Kp Z w w') (hz : ∀ z ∈ Z', z ∈ Z) : Kp Z' w w' := ⟨h.size, fun z k => h.blk z (hz z k)⟩
theorem Kp.cell {Z : List Nat} {w w' : World} (h : Kp Z w w') {z o : Nat} (hz : z ∈ Z) : w'.cell? ⟨z, o, none⟩ = w.cell? ⟨z, o, none⟩ := World.cell?_of_block (a := ⟨z, o, none⟩) (h.blk z hz)
theorem Kp.set {Z : List Nat} (w : World) {q o : Nat} (u : Value) (hZ : ∀ z ∈ Z, z ≠ q) : Kp Z w (w.setCell ⟨q, o, none⟩ u) := ⟨by simp, fun z hz => Go.Deep.blk_setCell_other _ _ _ _ (hZ z hz)⟩
theorem Kp.frozen {Z : List Nat} {w w' : World} (h : Kp Z w w') {z o : Nat} (hz : z ∈ Z) : w'.frozen? ⟨z, o, none⟩ = w.frozen? ⟨z, o, none⟩ := by
  have := h.blk z hz
  unfold World.frozen?
  simp only [this]
theorem frozen_set (w : World) (q o : Nat) (v : Value) (a : Addr) : (w.setCell ⟨q, o, none⟩ v).frozen? a = w.frozen? a := by
  simp
theorem Kp.ints {Z : List Nat} {w w' : World} {A : Option Addr} {n : Nat} {l : List Int} (h : Kp Z w w') (hi : IntsAt w w.heap.size A n l) (hA : ∀ b off, A = some ⟨b, off, none⟩ → b ∈ Z) : IntsAt w' w'.heap.size A n l := by
  refine ⟨hi.1, hi.2.1, fun hn => ?_⟩
  obtain ⟨b, off, e, hB, hc⟩ := hi.2.2 hn
  exact ⟨b, off, e, Nat.lt_of_lt_of_le hB h.size, fun i x hx j v hv => (h.cell (hA b off e)).trans (hc i x hx j v hv)⟩

/-- The two worlds, apart from blocks of the caller's. -/
def Frm (B : Nat) (w wr : World) (b N c : Nat) (m x : Wld) (Z : List Nat) : Prop :=
  ∃ X Y, WTwo wr b X N c Y m x ∧ (∀ i ∈ X ++ Y, B ≤ i) ∧ Below B w wr ∧ m.stores.length = 3 ∧ x.stores.length = 3 ∧ (∀ i ∈ X ++ Y, i ∉ Z) ∧ ∀ z ∈ Z, z < wr.heap.size ∧ B ≤ z
section
variable {B b N M K c cb : Nat} {m x m' x' mc : Wld} {w wr w' w1 w2 w3 : World} {Z Z' : List Nat}
theorem Both.frm (h : Both B w wr b N c m x) : Frm B w wr b N c m x [] := by
  obtain ⟨X, Y, h1, h2, h3, h4, h5⟩ := h
  exact ⟨X, Y, h1, h2, h3, h4, h5, by simp, by simp⟩
theorem Frm.both (h : Frm B w wr b N c m x Z) : Both B w wr b N c m x := by
  obtain ⟨X, Y, h1, h2, h3, h4, h5, h6⟩ := h
  exact ⟨X, Y, h1, h2, h3, h4, h5⟩
theorem Frm.low (h : Frm B w wr b N c m x Z) {z : Nat} (hz : z ∈ Z) : z < wr.heap.size := by
  obtain ⟨X, Y, h1, h2, h3, h4, h5, h6, h7⟩ := h
  exact (h7 z hz).1
theorem Frm.ups (h : Frm B w wr b N c m x Z) (i : Int) :
    Calls Tryz.prog 27 #[.pointer (some ⟨b, 0, none⟩), .int .i64 i] wr fun e w' => e = .returned (.bool (m.up i)) ∧ wr = w' := by
  obtain ⟨X, Y, h1, h2, h3, h4, h5, h6, h7⟩ := h
  exact WldAt.ups h1.p
theorem Frm.kp (h : Frm B w wr b N c m x Z) (hb : Below wr.heap.size wr w') : Kp Z wr w' := by
  obtain ⟨X, Y, h1, h2, h3, h4, h5, h6, h7⟩ := h
  exact ⟨hb.size, fun z hz => hb.block z (h7 z hz).1⟩
theorem Frm.below (h : Frm B w wr b N c m x Z) (hB : B ≤ w.heap.size) (hb : Below wr.heap.size wr w') : Frm B w w' b N c m x Z := by
  obtain ⟨X, Y, h1, h2, h3, h4, h5, h6, h7⟩ := h
  exact ⟨X, Y, h1.below hb, h2, h3.trans (hb.mono (Nat.le_trans hB h3.size)), h4, h5, h6, fun z hz => ⟨Nat.lt_of_lt_of_le (h7 z hz).1 hb.size, (h7 z hz).2⟩⟩
theorem Frm.less (h : Frm B w wr b N c m x Z) (hz : ∀ z ∈ Z', z ∈ Z) : Frm B w wr b N c m x Z' := by
  obtain ⟨X, Y, h1, h2, h3, h4, h5, h6, h7⟩ := h
  exact ⟨X, Y, h1, h2, h3, h4, h5, fun i hi hf => h6 i hi (hz i hf), fun z k => h7 z (hz z k)⟩
theorem Frm.add (h : Frm B w wr b N c m x Z) (hB : B ≤ w.heap.size) (hb : Below wr.heap.size wr w') (hz : ∀ z ∈ Z', wr.heap.size ≤ z ∧ z < w'.heap.size) : Frm B w w' b N c m x (Z' ++ Z) := by
  have h0 := h.below hB hb
  obtain ⟨X, Y, h1, h2, h3, h4, h5, h6, h7⟩ := h
  have hs := h3.size
  obtain ⟨_, _, _, _, k3, _⟩ := h0
  refine ⟨X, Y, h1.below hb, h2, k3, h4, h5, fun i hi hf => ?_, fun z hf => ?_⟩
  · rcases List.mem_append.1 hf with hf | hf
    · have := (hz i hf).1; have := h1.lt i hi; omega
    · exact h6 i hi hf
  · rcases List.mem_append.1 hf with hf | hf
    · have := hz z hf; exact ⟨this.2, by omega⟩
    · have := h7 z hf; have := hb.size; exact ⟨by omega, by omega⟩
theorem Frm.set (h : Frm B w wr b N c m x Z) {z o : Nat} (hz : z ∈ Z) (u : Value) : Frm B w (wr.setCell ⟨z, o, none⟩ u) b N c m x Z := by
  obtain ⟨X, Y, h1, h2, h3, h4, h5, h6, h7⟩ := h
  refine ⟨X, Y, h1.but (But.of_set (F := [z]) u (by simp)) (fun i hi hf => ?_), h2, h3.setCell (h7 z hz).2 u, h4, h5, h6, fun y hy => ⟨by simpa using (h7 y hy).1, (h7 y hy).2⟩⟩
  simp only [List.mem_singleton] at hf
  exact h6 i hi (by rw [hf]; exact hz)
theorem Frm.do_ {a : Stepx} (h : Frm B w wr b N c m x Z) (hB : B ≤ w.heap.size) (ha : StepOk wr B a) (hN : N + 1 ≤ 1000000) :
    Calls Tryz.prog 13 #[a.agg, .pointer (some ⟨b, 0, none⟩), .pointer (some ⟨c, 0, none⟩)] wr fun e w' => ∃ R, e = .returned (.bool R) ∧ Frm B w w' b (N + 1) c (m.step a) (x.step a) Z ∧ Kp Z wr w' := by
  obtain ⟨X, Y, h1, h2, h3, h4, h5, h6, h7⟩ := h
  refine (law08_do b N c X Y m x a B wr hN h1 ha (Nat.le_trans hB h3.size) h2).mono ?_
  rintro e w' ⟨R, rfl, k1, k2⟩
  obtain ⟨X1, Y1, q1, q2, q3, q4, q5⟩ := WTo.step h2 k2 (Nat.le_trans hB h3.size)
  have hsz := q4.size
  refine ⟨R, rfl, ⟨X1, Y1, q1, q2, h3.trans q3, by rw [step_len]; exact h4, by rw [step_len]; exact h5, fun i hi hf => ?_, fun z hz => ⟨Nat.lt_of_lt_of_le (h7 z hz).1 hsz, (h7 z hz).2⟩⟩, ⟨hsz, fun z hz => q4.block z (h7 z hz).1 fun hf => h6 z hf hz⟩⟩
  rcases q5 i hi with e | e
  · exact h6 i e hf
  · have := (h7 i hf).1
    omega
theorem Frm.susp (h : Frm B w wr b N c m x Z) (hB : B ≤ w.heap.size) :
    Calls Tryz.prog 23 #[.pointer (some ⟨b, 0, none⟩)] wr fun e w' => ∃ A n k Z', e = .returned (.slice A n k) ∧ IntsAt w' w'.heap.size A n m.suspects ∧ (∀ b' off, A = some ⟨b', off, none⟩ → b' ∈ Z') ∧ Frm B w w' b N c m x (Z' ++ Z) ∧ Below wr.heap.size wr w' ∧ ∀ z ∈ Z', wr.heap.size ≤ z := by
  have h0 := h
  obtain ⟨X, Y, h1, h2, h3, h4, h5, h6, h7⟩ := h
  refine (world_Suspects b N X m wr h1.p).mono ?_
  rintro e w' ⟨v, rfl, ho, hb⟩
  obtain ⟨A, n, k, rfl⟩ : ∃ A n k, v = .slice A n k := by obtain ⟨A, k, e⟩ := Owns.form ho; exact ⟨A, _, k, e⟩
  have hr := Owns.row (k := 1) (fun x => intE.len x) ho
  rcases ho.2 with ⟨e1, _⟩ | ⟨g, cap, cur, e1, hg, hh, _⟩
  · cases e1
    exact ⟨_, _, _, [], rfl, hr, by simp, h0.below hB hb, hb, by simp⟩
  · cases e1
    have hgl : g < w'.heap.size := by
      rcases Nat.lt_or_ge g w'.heap.size with q | q
      · exact q
      · rw [Array.getElem?_eq_none q] at hh; cases hh
    exact ⟨_, _, _, [g], rfl, hr, by simp, h0.add hB hb (by simp; exact ⟨hg, hgl⟩), hb, by simp; exact hg⟩
theorem Frm.copyx (h : Frm B w wr b N c m x Z) (hB : B ≤ w.heap.size) :
    Calls Tryz.prog 24 #[.pointer (some ⟨c, 0, none⟩)] wr fun e w' => ∃ b2 X', e = .returned (.pointer (some ⟨b2, 0, none⟩)) ∧ RWAt w' b2 X' x ∧ Below wr.heap.size wr w' ∧ (∀ i ∈ X', wr.heap.size ≤ i) ∧ ∀ p ∈ x.stores, StoOk N p.1 := by
  obtain ⟨X, Y, h1, h2, h3, h4, h5, h6, h7⟩ := h
  refine (ref08_Copy c N Y x wr h1.r h1.ok h1.nx).mono ?_
  rintro e w' ⟨b2, X', rfl, k1, k2, k3⟩
  exact ⟨b2, X', rfl, k1, k2, k3, h1.ok⟩
end
end Go.Proofs.YtfkonpmnclknaaaGreat
