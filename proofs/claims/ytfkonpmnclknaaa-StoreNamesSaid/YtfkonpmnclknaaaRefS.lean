/-
  The reference's store: how it lies in memory; New, Objects, refused.
-/
import Derived.Test.YtfkonpmnclknaaaRefDrop
import Derived.Test.YtfkonpmnclknaaaButA
namespace Go.Proofs.Ytfkonpmnclknaaa
open Go.RowKit
attribute [local go_sem ↓] Go.wp_at_zero Go.wp_at_succ

def wrE : Elem Wr where
  T := 86
  S := 70
  k := 3
  bytes := 40
  enc := Wr.cells
  z := .agg #[.string ⟨#[]⟩, .string ⟨#[]⟩, .bool false]
  und := Try.underlying70
  info := by kernel_rfl
  zc := rfl
  pos := by decide
  small := by decide
  len := fun _ => rfl
  one := fun x u hu => by simp [Wr.cells] at hu; rcases hu with rfl | rfl | rfl <;> rfl
/-- Block b is a box of the reference's store. -/
def RB (w : World) (b : Nat) (v0 v1 v2 v3 v4 : Value) : Prop := w.heap[b]? = some (.cells #[v0, v1, v2, v3, v4] 72)
section
variable {w w' : World} {b : Nat} {v0 v1 v2 v3 v4 : Value}
theorem RB.lt (h : RB w b v0 v1 v2 v3 v4) : b < w.heap.size := (Array.getElem?_eq_some_iff.1 h).1
theorem RB.cells (h : RB w b v0 v1 v2 v3 v4) : w.cell? ⟨b, 0, none⟩ = some v0 ∧ w.cell? ⟨b, 1, none⟩ = some v1 ∧ w.cell? ⟨b, 2, none⟩ = some v2 ∧ w.cell? ⟨b, 3, none⟩ = some v3 ∧ w.cell? ⟨b, 4, none⟩ = some v4 :=
  ⟨cell_of_row w b 0 _ _ _ h, cell_of_row w b 1 _ _ _ h, cell_of_row w b 2 _ _ _ h, cell_of_row w b 3 _ _ _ h, cell_of_row w b 4 _ _ _ h⟩
theorem RB.frozen (h : RB w b v0 v1 v2 v3 v4) (o : Nat) : w.frozen? ⟨b, o, none⟩ = false := by
  unfold RB at h
  unfold World.frozen?
  simp [h]
theorem RB.block (h : RB w b v0 v1 v2 v3 v4) (hb : w'.heap[b]? = w.heap[b]?) : RB w' b v0 v1 v2 v3 v4 := hb.trans h
theorem RB.below {B : Nat} (h : RB w b v0 v1 v2 v3 v4) (hB : b < B) (hb : Below B w w') : RB w' b v0 v1 v2 v3 v4 := h.block (hb.block b hB)
theorem RB.grown {row : Option Nat} (h : RB w b v0 v1 v2 v3 v4) (hg : w.grownBy w' row) (hne : row ≠ some b) : RB w' b v0 v1 v2 v3 v4 := h.block (hg.block b h.lt (fun e => hne e.symm))
theorem RB.alloc (h : RB w b v0 v1 v2 v3 v4) (o : Obj) : RB (w.alloc o) b v0 v1 v2 v3 v4 := h.block (Go.Deep.blk_alloc_lt _ _ _ h.lt)
theorem RB.new (w : World) (v0 v1 v2 v3 v4 : Value) : RB (w.alloc (.cells #[v0, v1, v2, v3, v4] 72)) w.heap.size v0 v1 v2 v3 v4 := heap_alloc_new w _
theorem RB.set0 (h : RB w b v0 v1 v2 v3 v4) (u : Value) : RB (w.setCell ⟨b, 0, none⟩ u) b u v1 v2 v3 v4 := (heap_setCellS h u).trans rfl
theorem RB.set1 (h : RB w b v0 v1 v2 v3 v4) (u : Value) : RB (w.setCell ⟨b, 1, none⟩ u) b v0 u v2 v3 v4 := (heap_setCellS h u).trans rfl
theorem RB.set2 (h : RB w b v0 v1 v2 v3 v4) (u : Value) : RB (w.setCell ⟨b, 2, none⟩ u) b v0 v1 u v3 v4 := (heap_setCellS h u).trans rfl
theorem RB.set3 (h : RB w b v0 v1 v2 v3 v4) (u : Value) : RB (w.setCell ⟨b, 3, none⟩ u) b v0 v1 v2 u v4 := (heap_setCellS h u).trans rfl
theorem RB.set4 (h : RB w b v0 v1 v2 v3 v4) (u : Value) : RB (w.setCell ⟨b, 4, none⟩ u) b v0 v1 v2 v3 u := (heap_setCellS h u).trans rfl
end

/-- What a store is, whoever keeps it. -/
structure StoOk (N : Nat) (s : Sto) : Prop where
  coh : s.seen = fullGo s.writes s.good
  ng : ∀ p ∈ s.good, OkO p
  nw : ∀ x ∈ s.writes, OkO (x.name, x.data)
  len : s.good.length + s.writes.length ≤ N
  cap : N ≤ 1000000
  rf : -1 ≤ s.refuse
  rf9 : s.refuse ≤ 9223372036854775807
  rm : -1 ≤ s.room
  rm9 : s.room ≤ 9223372036854775807
theorem fullO_len (g : List Ob) (x : Wr) : (fullO g x).length ≤ g.length + 1 := by
  unfold fullO
  split
  · have := delO_len g x.name; omega
  · exact putO_len _ _
theorem fullGo_len : ∀ (ws : List Wr) (g : List Ob), (fullGo ws g).length ≤ g.length + ws.length
  | [], _ => Nat.le_refl _
  | x :: ws, g => by
    have h1 := fullGo_len ws (fullO g x)
    have h2 := fullO_len g x
    simp only [fullGo, List.foldl_cons, List.length_cons] at h1 ⊢
    omega
theorem fullO_ok {g : List Ob} {x : Wr} (hg : ∀ p ∈ g, OkO p) (hx : OkO (x.name, x.data)) : ∀ p ∈ fullO g x, OkO p := fun p hp => by
  unfold fullO at hp
  split at hp
  · exact hg p (delO_mem.1 hp).1
  · rcases putO_mem.1 hp with rfl | h
    · exact hx
    · exact hg p h.1
theorem fullGo_ok : ∀ {ws : List Wr} {g : List Ob}, (∀ p ∈ g, OkO p) → (∀ x ∈ ws, OkO (x.name, x.data)) → ∀ p ∈ fullGo ws g, OkO p
  | [], _, h, _ => h
  | x :: ws, g, h, hw => by
    show ∀ p ∈ fullGo ws (fullO g x), OkO p
    exact fullGo_ok (fullO_ok h (hw x List.mem_cons_self)) fun y hy => hw y (List.mem_cons_of_mem _ hy)
theorem StoOk.seenLen {N : Nat} {s : Sto} (h : StoOk N s) : s.seen.length ≤ N := by
  have := fullGo_len s.writes s.good
  rw [h.coh]
  have := h.len
  omega
theorem StoOk.ns {N : Nat} {s : Sto} (h : StoOk N s) : ∀ p ∈ s.seen, OkO p := by rw [h.coh]; exact fullGo_ok h.ng h.nw
theorem StoOk.more {N M : Nat} {s : Sto} (h : StoOk N s) (hM : N ≤ M) (hc : M ≤ 1000000) : StoOk M s := { h with len := Nat.le_trans h.len hM, cap := hc }

structure RefIn (w : World) (b : Nat) (G V : Value) (s : Sto) : Prop where
  box : RB w b G V (.bool s.down) (.int .i64 s.refuse) (.int .i64 s.room)
  good : objE.Own w 0 G s.good
  own : wrE.Own w 0 V s.writes
  ap : (b :: (G.ownBlock.toList ++ V.ownBlock.toList)).Nodup
/-- Block b is a box of the reference's store s; F: its blocks. -/
def RefAt (w : World) (b : Nat) (F : List Nat) (s : Sto) : Prop := ∃ G V, F = b :: (G.ownBlock.toList ++ V.ownBlock.toList) ∧ RefIn w b G V s
def RefTo (b : Nat) (F : List Nat) (s' : Sto) (w w' : World) : Prop := ∃ F', RefAt w' b F' s' ∧ But F w w' ∧ ∀ i ∈ F', i ∈ F ∨ w.heap.size ≤ i

theorem RefIn.lt {w : World} {b : Nat} {G V : Value} {s : Sto} (h : RefIn w b G V s) : ∀ i ∈ b :: (G.ownBlock.toList ++ V.ownBlock.toList), i < w.heap.size := by
  intro i hi
  rcases List.mem_cons.1 hi with rfl | hi
  · exact h.box.lt
  rcases List.mem_append.1 hi with hi | hi
  · exact (h.good.within (i := i) (by simpa using hi)).2
  · exact (h.own.within (i := i) (by simpa using hi)).2
theorem RefAt.lt {w : World} {b : Nat} {F : List Nat} {s : Sto} (h : RefAt w b F s) : ∀ i ∈ F, i < w.heap.size := by
  obtain ⟨G, V, rfl, h⟩ := h
  exact h.lt
theorem RefIn.block {w w' : World} {b : Nat} {G V : Value} {s : Sto} (h : RefIn w b G V s) (hb : ∀ i ∈ b :: (G.ownBlock.toList ++ V.ownBlock.toList), w'.heap[i]? = w.heap[i]?) : RefIn w' b G V s :=
  { h with
    box := h.box.block (hb _ (by simp))
    good := h.good.blockS fun i e => hb _ (by simp [e])
    own := h.own.blockS fun i e => hb _ (by simp [e]) }
theorem RefAt.block {w w' : World} {b : Nat} {F : List Nat} {s : Sto} (h : RefAt w b F s) (hb : ∀ i ∈ F, w'.heap[i]? = w.heap[i]?) : RefAt w' b F s := by
  obtain ⟨G, V, rfl, h⟩ := h
  exact ⟨G, V, rfl, h.block hb⟩
theorem RefAt.but {w w' : World} {b : Nat} {F G : List Nat} {s : Sto} (h : RefAt w b F s) (hb : But G w w') (hF : ∀ i ∈ F, i ∉ G) : RefAt w' b F s := h.block fun i hi => hb.block i (h.lt i hi) (hF i hi)
theorem RefAt.below {w w' : World} {b : Nat} {F : List Nat} {s : Sto} (h : RefAt w b F s) (hb : Below w.heap.size w w') : RefAt w' b F s := h.block fun i hi => hb.block i (h.lt i hi)
theorem RefAt.apart {w : World} {b : Nat} {F : List Nat} {s : Sto} (h : RefAt w b F s) : b ∈ F := by
  obtain ⟨G, V, rfl, _⟩ := h
  simp
theorem RefTo.same {b : Nat} {F : List Nat} {s : Sto} {w w' : World} (h : RefAt w b F s) (hb : Below w.heap.size w w') : RefTo b F s w w' := ⟨F, h.below hb, But.of_below hb, fun _ hi => .inl hi⟩
theorem RefTo.trans {b : Nat} {F : List Nat} {s1 s2 : Sto} {w w1 w2 : World} (h : RefTo b F s1 w w1) (k : ∀ F1, RefAt w1 b F1 s1 → RefTo b F1 s2 w1 w2) : RefTo b F s2 w w2 := by
  obtain ⟨F1, h1, h2, h3⟩ := h
  obtain ⟨F2, k1, k2, k3⟩ := k F1 h1
  refine ⟨F2, k1, h2.trans k2 h3, fun i hi => ?_⟩
  rcases k3 i hi with e | e
  · exact h3 i e
  · exact .inr (Nat.le_trans h2.size e)
theorem RefTo.ahead {b : Nat} {F : List Nat} {s : Sto} {w w0 w' : World} (hb : Below w.heap.size w w0) (h : RefTo b F s w0 w') : RefTo b F s w w' := by
  obtain ⟨F1, h1, h2, h3⟩ := h
  exact ⟨F1, h1, (But.of_below hb).trans h2 fun i hi => .inl hi, fun i hi => (h3 i hi).imp id fun e => Nat.le_trans hb.size e⟩
/-- A plain cell of the box is another one. -/
theorem RefIn.set {w : World} {b o : Nat} {G V u : Value} {s s' : Sto} (h : RefIn w b G V s) (hb : RB (w.setCell ⟨b, o, none⟩ u) b G V (.bool s'.down) (.int .i64 s'.refuse) (.int .i64 s'.room)) (hg : s'.good = s.good) (hw : s'.writes = s.writes) : RefIn (w.setCell ⟨b, o, none⟩ u) b G V s' := by
  have hap := h.ap
  simp only [List.nodup_cons, List.mem_append, not_or] at hap
  exact
    { box := hb
      good := by rw [hg]; exact h.good.blockS fun i e => Go.Deep.blk_setCell_other _ _ _ _ (fun e' => hap.1.1 (by have e2 : i = b := e'; subst e2; simpa using e))
      own := by rw [hw]; exact h.own.blockS fun i e => Go.Deep.blk_setCell_other _ _ _ _ (fun e' => hap.1.2 (by have e2 : i = b := e'; subst e2; simpa using e))
      ap := h.ap }
theorem RefTo.set {w : World} {b o : Nat} {G V u : Value} {s' : Sto} (h : RefIn (w.setCell ⟨b, o, none⟩ u) b G V s') : RefTo b (b :: (G.ownBlock.toList ++ V.ownBlock.toList)) s' w (w.setCell ⟨b, o, none⟩ u) :=
  ⟨_, ⟨G, V, rfl, h⟩, But.of_set _ (by simp), fun i hi => .inl hi⟩

set_option maxHeartbeats 1000000 in
theorem ref07_New (w : World) :
    Calls Try.prog 9 #[] w fun e w' => e = .returned (.pointer (some ⟨w.heap.size, 0, none⟩)) ∧ RefAt w' w.heap.size [w.heap.size] Sto.new ∧ Below w.heap.size w w' := by
  go_enter Try.func9, Try.ntmps9
  go_wp2_with fail
  go_ret
  exact ⟨rfl, ⟨.slice none 0 0, .slice none 0 0, rfl, ⟨RB.new _ _ _ _ _ _, Owns.nil_, Owns.nil_, by simp [Value.ownBlock]⟩⟩, (Below.refl _ w).alloc (Nat.le_refl _) _⟩

set_option maxHeartbeats 1000000 in
theorem ref07_refused (b : Nat) (G V : Value) (s : Sto) (w : World) (h : RefIn w b G V s) (r1 : -1 ≤ s.refuse) (r9 : s.refuse ≤ 9223372036854775807) :
    Calls Try.prog 81 #[.pointer (some ⟨b, 0, none⟩)] w fun e w' => e = .returned (.bool s.refNow) ∧ RefIn w' b G V s.tried ∧ But [b] w w' := by
  obtain ⟨c0, c1, c2, c3, c4⟩ := h.box.cells
  have f3 := h.box.frozen 3
  have hh := Lib.hid h
  by_cases hr : s.refuse < 0
  · have h1 : s.refNow = false := by unfold Sto.refNow; rw [decide_eq_false_iff_not]; omega
    have h2 : Hid (s.tried = s) := by unfold Hid Sto.tried; rw [if_pos hr]
    rw [h1]
    clear h h1
    go_enter Try.func81, Try.ntmps81
    go_wp2_with fail
    go_ret
    exact ⟨rfl, by rw [h2.out]; exact hh.out, But.refl _ _⟩
  · have h2 : Hid (s.tried = { s with refuse := s.refuse - 1 }) := by unfold Hid Sto.tried; rw [if_neg hr]
    have hbx := h.box.set3 (.int .i64 (s.refuse - 1))
    obtain ⟨d0, d1, d2, d3, d4⟩ := hbx.cells
    replace hbx := Lib.hid hbx
    clear h
    by_cases h0 : s.refuse = 0
    · have h1 : s.refNow = true := by unfold Sto.refNow; rw [decide_eq_true_eq]; omega
      have hlt : (s.refuse - 1 == -1) = true := by rw [h0]; rfl
      rw [h1]
      replace h1 := Lib.hid h1
      replace h0 := Lib.hid h0
      go_enter Try.func81, Try.ntmps81
      go_wp2_with fail
      go_ret
      exact ⟨rfl, by rw [h2.out]; exact hh.out.set hbx.out rfl rfl, But.of_set _ (by simp)⟩
    · have h1 : s.refNow = false := by unfold Sto.refNow; rw [decide_eq_false_iff_not]; omega
      have hlt : (s.refuse - 1 == -1) = false := by simp; omega
      rw [h1]
      replace h1 := Lib.hid h1
      replace h0 := Lib.hid h0
      go_enter Try.func81, Try.ntmps81
      go_wp2_with fail
      go_ret
      exact ⟨rfl, by rw [h2.out]; exact hh.out.set hbx.out rfl rfl, But.of_set _ (by simp)⟩
end Go.Proofs.Ytfkonpmnclknaaa
