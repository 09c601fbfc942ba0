/-
  A world: what it is, how it lies in memory, what a call of it may change.
-/
import Derived.Test.YtfkonpmnclknaaaStoJ
import Derived.Test.YtfkonpmnclknaaaStoI
import Derived.Test.YtfkonpmnclknaaaButA
import Derived.Test.YtfkonpmnclknaaaHeld
namespace Go.Proofs.Ytfkonpmnclknaaa
open Go.RowKit

def oneCells (x : Nat × Bool) : List Value := [.pointer (some ⟨x.1, 0, none⟩), .bool x.2]
def oneE : Elem (Nat × Bool) where
  T := 100
  S := 96
  k := 2
  bytes := 16
  enc := oneCells
  z := .agg #[.pointer none, .bool false]
  und := Try.underlying96
  info := by kernel_rfl
  zc := rfl
  pos := by decide
  small := by decide
  len := fun _ => rfl
  one := fun x u hu => by simp [oneCells] at hu; rcases hu with rfl | rfl <;> rfl

structure Wld where
  stores : List (Sto × Bool)
  calls : Nat
  left : Int
  dark : Bool

/-- Block b is a box of a world. -/
def WB (w : World) (b : Nat) (v0 v1 v2 v3 : Value) : Prop := w.heap[b]? = some (.cells #[v0, v1, v2, v3] 98)
section
variable {w w' : World} {b : Nat} {v0 v1 v2 v3 : Value}
theorem WB.lt (h : WB w b v0 v1 v2 v3) : b < w.heap.size := (Array.getElem?_eq_some_iff.1 h).1
theorem WB.cells (h : WB w b v0 v1 v2 v3) : w.cell? ⟨b, 0, none⟩ = some v0 ∧ w.cell? ⟨b, 1, none⟩ = some v1 ∧ w.cell? ⟨b, 2, none⟩ = some v2 ∧ w.cell? ⟨b, 3, none⟩ = some v3 :=
  ⟨cell_of_row w b 0 _ _ _ h, cell_of_row w b 1 _ _ _ h, cell_of_row w b 2 _ _ _ h, cell_of_row w b 3 _ _ _ h⟩
theorem WB.frozen (h : WB w b v0 v1 v2 v3) (o : Nat) : w.frozen? ⟨b, o, none⟩ = false := by
  unfold WB at h
  unfold World.frozen?
  simp [h]
theorem WB.block (h : WB w b v0 v1 v2 v3) (hb : w'.heap[b]? = w.heap[b]?) : WB w' b v0 v1 v2 v3 := hb.trans h
theorem WB.grown {row : Option Nat} (h : WB w b v0 v1 v2 v3) (hg : w.grownBy w' row) (hne : row ≠ some b) : WB w' b v0 v1 v2 v3 := h.block (hg.block b h.lt (fun e => hne e.symm))
theorem WB.new (w : World) (v0 v1 v2 v3 : Value) : WB (w.alloc (.cells #[v0, v1, v2, v3] 98)) w.heap.size v0 v1 v2 v3 := heap_alloc_new w _
theorem WB.set0 (h : WB w b v0 v1 v2 v3) (u : Value) : WB (w.setCell ⟨b, 0, none⟩ u) b u v1 v2 v3 := (heap_setCellS h u).trans rfl
theorem WB.set1 (h : WB w b v0 v1 v2 v3) (u : Value) : WB (w.setCell ⟨b, 1, none⟩ u) b v0 u v2 v3 := (heap_setCellS h u).trans rfl
theorem WB.set2 (h : WB w b v0 v1 v2 v3) (u : Value) : WB (w.setCell ⟨b, 2, none⟩ u) b v0 v1 u v3 := (heap_setCellS h u).trans rfl
theorem WB.set3 (h : WB w b v0 v1 v2 v3) (u : Value) : WB (w.setCell ⟨b, 3, none⟩ u) b v0 v1 v2 u := (heap_setCellS h u).trans rfl
end

/-! A cell of an own row is another one. -/
theorem flat_set {α : Type} {k : Nat} {enc : α → List Value} (hk : ∀ x, (enc x).length = k) {u : Value} {j : Nat} {x' : α} : ∀ (l : List α) (i : Nat) (x : α), l[i]? = some x → enc x' = (enc x).set j u → j < k → (l.set i x').flatMap enc = (l.flatMap enc).set (i * k + j) u
  | [], i, x, h, _, _ => by simp at h
  | y :: l, 0, x, h, he, hj => by
    simp at h
    subst h
    rw [List.set_cons_zero, List.flatMap_cons, List.flatMap_cons, he, Nat.zero_mul, Nat.zero_add, List.set_append_left _ _ (by rw [hk]; exact hj)]
  | y :: l, i + 1, x, h, he, hj => by
    simp at h
    have ih := flat_set hk l i x h he hj
    rw [List.set_cons_succ, List.flatMap_cons, List.flatMap_cons, ih, List.set_append_right _ _ (by rw [hk, Nat.add_mul]; omega), hk]
    rw [show (i + 1) * k + j - k = i * k + j from by rw [Nat.add_mul]; omega]
theorem Owns.setAt {α : Type} {k : Nat} {enc : α → List Value} {T : TypeId} {w : World} {base g n c : Nat} {l : List α} (hk : ∀ x, (enc x).length = k) (h : Owns k enc T w base (.slice (some ⟨g, 0, none⟩) n c) l) {i j : Nat} {x x' : α} {u : Value} (hx : l[i]? = some x) (he : enc x' = (enc x).set j u) (hj : j < k) :
    Owns k enc T (w.setCell ⟨g, i * k + j, none⟩ u) base (.slice (some ⟨g, 0, none⟩) n c) (l.set i x') := by
  rcases h.2 with ⟨e, _⟩ | ⟨g', cap, cur, e, hg, hh, hnc, hcm, hcs, htk⟩
  · simp at e
  · simp only [Value.slice.injEq, Option.some.injEq, Addr.mk.injEq, and_true] at e
    obtain ⟨rfl, rfl, rfl⟩ := e
    refine ⟨by rw [flat_len hk], .inr ⟨g, c, cur.setIfInBounds (i * k + j) u, by simp, hg, heap_setCellS hh u, by simpa using hnc, hcm, by simpa using hcs, ?_⟩⟩
    rw [Array.toList_setIfInBounds, List.take_set, List.length_set, htk, flat_set hk l i x hx he hj]

structure WldIn (w : World) (b : Nat) (V : Value) (l : List (Nat × Bool)) (f : Nat → List Nat) (N : Nat) (m : Wld) : Prop where
  box : WB w b V (.int .i64 m.calls) (.int .i64 m.left) (.bool m.dark)
  own : oneE.Own w 0 V l
  len : l.length = m.stores.length
  sto : ∀ i s u, m.stores[i]? = some (s, u) → ∃ q, l[i]? = some (q, u) ∧ StoAt w q (f i) N s
  apV : V.ownBlock ≠ some b
  apb : ∀ i, i < m.stores.length → b ∉ f i
  apr : ∀ i g, i < m.stores.length → V.ownBlock = some g → g ∉ f i
  ap : ∀ i j, i < m.stores.length → j < m.stores.length → i ≠ j → ∀ x ∈ f i, x ∉ f j
  few : m.stores.length ≤ 12
  calls : m.calls ≤ 1000000
  lo : -1 ≤ m.left
  hi : m.left ≤ 9223372036854775807
/-- The blocks of a world. -/
def wBlocks (b : Nat) (V : Value) (f : Nat → List Nat) (n : Nat) : List Nat := b :: (V.ownBlock.toList ++ (List.range n).flatMap f)
theorem mem_wBlocks {b n x : Nat} {V : Value} {f : Nat → List Nat} : x ∈ wBlocks b V f n ↔ x = b ∨ V.ownBlock = some x ∨ ∃ i, i < n ∧ x ∈ f i := by
  unfold wBlocks
  simp only [List.mem_cons, List.mem_append, Option.mem_toList, Option.mem_def, List.mem_flatMap, List.mem_range]
/-- Block b is a box of the world m; X: its blocks. -/
def WldAt (w : World) (b : Nat) (X : List Nat) (N : Nat) (m : Wld) : Prop := ∃ V l f, X = wBlocks b V f m.stores.length ∧ WldIn w b V l f N m
def WldTo (b : Nat) (X : List Nat) (N : Nat) (m' : Wld) (w w' : World) : Prop := ∃ X', WldAt w' b X' N m' ∧ But X w w' ∧ ∀ i ∈ X', i ∈ X ∨ w.heap.size ≤ i

section
variable {w w' w0 w1 : World} {b N M : Nat} {V : Value} {l : List (Nat × Bool)} {f : Nat → List Nat} {m m' : Wld} {X : List Nat}
theorem WldIn.at_ (h : WldIn w b V l f N m) {i : Nat} (hi : i < m.stores.length) : ∃ s u q, m.stores[i]? = some (s, u) ∧ l[i]? = some (q, u) ∧ StoAt w q (f i) N s := by
  have hx := List.getElem?_eq_getElem hi
  obtain ⟨q, h1, h2⟩ := h.sto i _ _ hx
  exact ⟨_, _, q, hx, h1, h2⟩
theorem WldIn.lt (h : WldIn w b V l f N m) : ∀ x ∈ wBlocks b V f m.stores.length, x < w.heap.size := fun x hx => by
  rcases mem_wBlocks.1 hx with rfl | e | ⟨i, hi, hx⟩
  · exact h.box.lt
  · exact (h.own.within e).2
  · obtain ⟨s, u, q, _, _, hs⟩ := h.at_ hi
    exact hs.lt x hx
theorem WldAt.lt (h : WldAt w b X N m) : ∀ x ∈ X, x < w.heap.size := by
  obtain ⟨V, l, f, rfl, h⟩ := h
  exact h.lt
theorem WldAt.mem (h : WldAt w b X N m) : b ∈ X := by
  obtain ⟨V, l, f, rfl, h⟩ := h
  exact mem_wBlocks.2 (.inl rfl)
theorem WldIn.block (h : WldIn w b V l f N m) (hb : ∀ x ∈ wBlocks b V f m.stores.length, w'.heap[x]? = w.heap[x]?) : WldIn w' b V l f N m :=
  { h with
    box := h.box.block (hb _ (mem_wBlocks.2 (.inl rfl)))
    own := h.own.blockS fun i e => hb _ (mem_wBlocks.2 (.inr (.inl e)))
    sto := fun i s u hx => by
      obtain ⟨q, h1, h2⟩ := h.sto i s u hx
      exact ⟨q, h1, h2.block fun x hxf => hb x (mem_wBlocks.2 (.inr (.inr ⟨i, (List.getElem?_eq_some_iff.1 hx).1, hxf⟩)))⟩ }
theorem WldAt.block (h : WldAt w b X N m) (hb : ∀ x ∈ X, w'.heap[x]? = w.heap[x]?) : WldAt w' b X N m := by
  obtain ⟨V, l, f, rfl, h⟩ := h
  exact ⟨V, l, f, rfl, h.block hb⟩
theorem WldAt.but {F : List Nat} (h : WldAt w b X N m) (hb : But F w w') (hF : ∀ i ∈ X, i ∉ F) : WldAt w' b X N m := h.block fun i hi => hb.block i (h.lt i hi) (hF i hi)
theorem WldAt.below (h : WldAt w b X N m) (hb : Below w.heap.size w w') : WldAt w' b X N m := h.block fun i hi => hb.block i (h.lt i hi)
theorem WldIn.more (h : WldIn w b V l f N m) (hM : N ≤ M) (hc : M ≤ 1000000) : WldIn w b V l f M m :=
  { h with
    sto := fun i s u hx => by
      obtain ⟨q, h1, h2⟩ := h.sto i s u hx
      exact ⟨q, h1, h2.more hM hc⟩ }
theorem WldAt.more (h : WldAt w b X N m) (hM : N ≤ M) (hc : M ≤ 1000000) : WldAt w b X M m := by
  obtain ⟨V, l, f, rfl, h⟩ := h
  exact ⟨V, l, f, rfl, h.more hM hc⟩
theorem WldTo.same (h : WldAt w b X N m) (hb : Below w.heap.size w w') : WldTo b X N m w w' := ⟨X, h.below hb, But.of_below hb, fun _ hi => .inl hi⟩
theorem WldTo.ahead (hb : Below w.heap.size w w0) (h : WldTo b X N m w0 w') : WldTo b X N m w w' := by
  obtain ⟨X1, h1, h2, h3⟩ := h
  exact ⟨X1, h1, (But.of_below hb).trans h2 fun i hi => .inl hi, fun i hi => (h3 i hi).imp id fun e => Nat.le_trans hb.size e⟩
theorem WldTo.then_ (h : WldTo b X N m w w1) (hb : Below w1.heap.size w1 w') : WldTo b X N m w w' := by
  obtain ⟨X1, h1, h2, h3⟩ := h
  exact ⟨X1, h1.below hb, h2.trans (But.of_below (F := []) hb) (by simp), h3⟩
theorem WldTo.more (h : WldTo b X N m w w') (hM : N ≤ M) (hc : M ≤ 1000000) : WldTo b X M m w w' := by
  obtain ⟨X1, h1, h2⟩ := h
  exact ⟨X1, h1.more hM hc, h2⟩
theorem WldTo.trans {m1 m2 : Wld} (h : WldTo b X N m1 w w1) (k : ∀ X1, WldAt w1 b X1 N m1 → WldTo b X1 M m2 w1 w') : WldTo b X M m2 w w' := by
  obtain ⟨X1, h1, h2, h3⟩ := h
  obtain ⟨X2, k1, k2, k3⟩ := k X1 h1
  refine ⟨X2, k1, h2.trans k2 h3, fun i hi => ?_⟩
  rcases k3 i hi with e | e
  · exact h3 i e
  · exact .inr (Nat.le_trans h2.size e)

/-- A plain cell of the box is another one. -/
theorem WldIn.set {o : Nat} {u : Value} (h : WldIn w b V l f N m) (hb : WB (w.setCell ⟨b, o, none⟩ u) b V (.int .i64 m'.calls) (.int .i64 m'.left) (.bool m'.dark)) (hs : m'.stores = m.stores) (hc : m'.calls ≤ 1000000) (hl : -1 ≤ m'.left) (hh : m'.left ≤ 9223372036854775807) : WldIn (w.setCell ⟨b, o, none⟩ u) b V l f N m' :=
  { box := hb
    own := h.own.blockS fun i e => Go.Deep.blk_setCell_other _ _ _ _ (fun e' => h.apV (by rw [e, e']))
    len := by rw [hs]; exact h.len
    sto := fun i s u' hx => by
      rw [hs] at hx
      obtain ⟨q, h1, h2⟩ := h.sto i s u' hx
      exact ⟨q, h1, h2.block fun x hxf => Go.Deep.blk_setCell_other _ _ _ _ (fun e => h.apb i (List.getElem?_eq_some_iff.1 hx).1 (by rw [← show x = b from e]; exact hxf))⟩
    apV := h.apV
    apb := by rw [hs]; exact h.apb
    apr := by rw [hs]; exact h.apr
    ap := by rw [hs]; exact h.ap
    few := by rw [hs]; exact h.few
    calls := hc, lo := hl, hi := hh }

def setF (f : Nat → List Nat) (i : Nat) (F : List Nat) : Nat → List Nat := fun j => if j = i then F else f j
def Wld.put (m : Wld) (i : Nat) (s : Sto) : Wld := { m with stores := m.stores.modify i fun p => (s, p.2) }
theorem put_at {i : Nat} {s' : Sto} (j : Nat) : (m.put i s').stores[j]? = (m.stores[j]?).map fun p => if i = j then (s', p.2) else p := by
  unfold Wld.put
  rw [List.getElem?_modify]
  split <;> rfl
/-- A call of one store. -/
theorem WldIn.call {i q : Nat} {s s' : Sto} {u : Bool} (h : WldIn w b V l f N m) (hx : m.stores[i]? = some (s, u)) (hq : l[i]? = some (q, u)) (k : StoTo q (f i) M s' w w') (hM : N ≤ M) (hc : M ≤ 1000000) :
    ∃ f', WldIn w' b V l f' M (m.put i s') ∧ But (f i) w w' ∧ ∀ x ∈ wBlocks b V f' m.stores.length, x ∈ wBlocks b V f m.stores.length ∨ w.heap.size ≤ x := by
  obtain ⟨F', k1, k2, k3⟩ := k
  have hil := (List.getElem?_eq_some_iff.1 hx).1
  have hpl : (m.put i s').stores.length = m.stores.length := by simp [Wld.put]
  have hnew : ∀ {x : Nat}, x < w.heap.size → x ∉ f i → x ∉ F' := fun {x} hx hf hF => by
    rcases k3 x hF with e | e
    · exact hf e
    · omega
  have hflt : ∀ j, j < m.stores.length → ∀ x ∈ f j, x < w.heap.size := fun j hj x hxf => h.lt x (mem_wBlocks.2 (.inr (.inr ⟨j, hj, hxf⟩)))
  refine ⟨setF f i F', ?_, k2, ?_⟩
  · exact
    { box := h.box.block (k2.block _ h.box.lt (h.apb i hil))
      own := h.own.blockS fun g e => k2.block _ (h.own.within e).2 (h.apr i g hil e)
      len := by rw [hpl]; exact h.len
      sto := fun j t v hj => by
        rw [put_at] at hj
        cases hmj : m.stores[j]? with
        | none => rw [hmj] at hj; simp at hj
        | some p =>
          obtain ⟨t0, v0⟩ := p
          rw [hmj] at hj
          simp only [Option.map_some, Option.some.injEq] at hj
          by_cases hij : i = j
          · subst hij
            rw [if_pos rfl] at hj
            cases hj
            rw [hx] at hmj
            cases hmj
            exact ⟨q, hq, by unfold setF; rw [if_pos rfl]; exact k1⟩
          · rw [if_neg hij] at hj
            cases hj
            obtain ⟨q', h1, h2⟩ := h.sto j _ _ hmj
            have hjl := (List.getElem?_eq_some_iff.1 hmj).1
            refine ⟨q', h1, ?_⟩
            unfold setF
            rw [if_neg (fun e => hij e.symm)]
            exact (h2.but k2 fun x hxf hf => h.ap i j hil hjl hij x hf hxf).more hM hc
      apV := h.apV
      apb := fun j hj => by
        rw [hpl] at hj
        unfold setF
        split
        · exact hnew h.box.lt (h.apb i hil)
        · exact h.apb j hj
      apr := fun j g hj e => by
        rw [hpl] at hj
        unfold setF
        split
        · exact hnew (h.own.within e).2 (h.apr i g hil e)
        · exact h.apr j g hj e
      ap := fun j j' hj hj' hne x hxj hxj' => by
        rw [hpl] at hj hj'
        unfold setF at hxj hxj'
        by_cases e1 : j = i
        · rw [if_pos e1] at hxj
          rw [if_neg (by omega)] at hxj'
          exact hnew (hflt j' hj' x hxj') (fun hf => h.ap i j' hil hj' (by omega) x hf hxj') hxj
        · rw [if_neg e1] at hxj
          by_cases e2 : j' = i
          · rw [if_pos e2] at hxj'
            exact hnew (hflt j hj x hxj) (fun hf => h.ap i j hil hj (by omega) x hf hxj) hxj'
          · rw [if_neg e2] at hxj'
            exact h.ap j j' hj hj' hne x hxj hxj'
      few := by rw [hpl]; exact h.few
      calls := h.calls, lo := h.lo, hi := h.hi }
  · intro x hxb
    rcases mem_wBlocks.1 hxb with rfl | e | ⟨j, hj, hxf⟩
    · exact .inl (mem_wBlocks.2 (.inl rfl))
    · exact .inl (mem_wBlocks.2 (.inr (.inl e)))
    · unfold setF at hxf
      split at hxf
      · rcases k3 x hxf with e | e
        · exact .inl (mem_wBlocks.2 (.inr (.inr ⟨i, hil, e⟩)))
        · exact .inr e
      · exact .inl (mem_wBlocks.2 (.inr (.inr ⟨j, hj, hxf⟩)))
end

theorem RowAt.one {w : World} {B n : Nat} {A : Option Addr} {l : List (Nat × Bool)} (h : RowAt 2 oneCells w B A n l) {i : Nat} (hi : i < n) : ∃ b off p, A = some ⟨b, off, none⟩ ∧ b < B ∧ l[i]? = some p ∧
    w.cell? ⟨b, off + i * 2, none⟩ = some (.pointer (some ⟨p.1, 0, none⟩)) ∧ w.cell? ⟨b, off + i * 2 + 1, none⟩ = some (.bool p.2) := by
  obtain ⟨hl, _, hc⟩ := h
  obtain ⟨b, off, e, hb, hc⟩ := hc (by omega)
  have hx : l[i]? = some (l[i]'(by omega)) := List.getElem?_eq_getElem (by omega)
  exact ⟨b, off, _, e, hb, hx, hc i _ hx 0 _ rfl, hc i _ hx 1 _ rfl⟩
end Go.Proofs.Ytfkonpmnclknaaa
/-
  The methods of a world that change little: New, has, N, Calls, Dark, Cut, Up, Objects.
-/
namespace Go.Proofs.Ytfkonpmnclknaaa
open Go.RowKit
attribute [local go_sem ↓] Go.wp_at_zero Go.wp_at_succ

/-- One store more. -/
theorem WldIn.grow {w w4 : World} {b N q : Nat} {V v' : Value} {l : List (Nat × Bool)} {f : Nat → List Nat} {m : Wld} {F : List Nat} {s : Sto} {u : Bool} (h : WldIn w b V l f N m) (hs : StoAt w q F N s) (hF : ∀ x ∈ F, x ∉ wBlocks b V f m.stores.length)
    (ho : oneE.Own w4 0 v' (l ++ [(q, u)])) (hg : w.grownBy w4 V.ownBlock) (hat : v'.ownBlock = V.ownBlock ∨ v'.ownBlock = some w.heap.size) (hn : m.stores.length + 1 ≤ 12) :
    WldIn (w4.setCell ⟨b, 0, none⟩ v') b v' (l ++ [(q, u)]) (setF f m.stores.length F) N { m with stores := m.stores ++ [(s, u)] } := by
  have hV : ∀ {x : Nat}, x < w.heap.size → V.ownBlock ≠ some x → v'.ownBlock ≠ some x := fun {x} hx hv e => by
    rcases hat with e' | e'
    · exact hv (e'.symm.trans e)
    · have := Option.some.inj (e'.symm.trans e)
      omega
  have hbF : b ∉ F := fun hi => hF b hi (mem_wBlocks.2 (.inl rfl))
  have hlen : (m.stores ++ [(s, u)]).length = m.stores.length + 1 := by simp
  have hflt : ∀ j, j < m.stores.length → ∀ x ∈ f j, x < w.heap.size := fun j hj x hxf => h.lt x (mem_wBlocks.2 (.inr (.inr ⟨j, hj, hxf⟩)))
  have hstand : ∀ x, x < w.heap.size → x ≠ b → V.ownBlock ≠ some x → (w4.setCell ⟨b, 0, none⟩ v').heap[x]? = w.heap[x]? := fun x hx hxb hxv =>
    (Go.Deep.blk_setCell_other _ _ _ _ hxb).trans (hg.block x hx (fun e => hxv e.symm))
  exact
  { box := (h.box.grown hg h.apV).set0 v'
    own := ho.blockS fun i e => Go.Deep.blk_setCell_other _ _ _ _ (fun e' => hV h.box.lt h.apV (by rw [e, e']))
    len := by simp [h.len]
    sto := fun i t v hx => by
      rcases Nat.lt_or_ge i m.stores.length with hi | hi
      · rw [List.getElem?_append_left hi] at hx
        obtain ⟨p, h1, h2⟩ := h.sto i t v hx
        refine ⟨p, by rw [List.getElem?_append_left (by rw [h.len]; exact hi)]; exact h1, ?_⟩
        unfold setF
        rw [if_neg (by omega)]
        exact h2.block fun x hxf => hstand x (h2.lt x hxf) (fun e => h.apb i hi (by rw [← e]; exact hxf)) (fun e => h.apr i x hi e hxf)
      · have hi2 : i = m.stores.length := by
          have := (List.getElem?_eq_some_iff.1 hx).1
          simp at this
          omega
        subst hi2
        rw [List.getElem?_append_right (Nat.le_refl _)] at hx
        simp at hx
        obtain ⟨rfl, rfl⟩ := hx
        refine ⟨q, by rw [← h.len, List.getElem?_append_right (Nat.le_refl _)]; simp, ?_⟩
        unfold setF
        rw [if_pos rfl]
        exact hs.block fun x hxf => hstand x (hs.lt x hxf) (fun e => hbF (by rw [← e]; exact hxf)) (fun e => hF x hxf (mem_wBlocks.2 (.inr (.inl e))))
    apV := hV h.box.lt h.apV
    apb := fun i hi => by
      rw [hlen] at hi
      unfold setF
      split
      · exact hbF
      · exact h.apb i (by omega)
    apr := fun i g hi e => by
      rw [hlen] at hi
      have key : ∀ F' : List Nat, (∀ x ∈ F', x < w.heap.size) → (V.ownBlock = some g → g ∉ F') → g ∉ F' := fun F' hl hv hgF => by
        rcases hat with e' | e'
        · exact hv (e'.symm.trans e) hgF
        · have := Option.some.inj (e'.symm.trans e)
          have := hl g hgF
          omega
      unfold setF
      split
      · exact key F hs.lt fun e' hgF => hF g hgF (mem_wBlocks.2 (.inr (.inl e')))
      · exact key (f i) (hflt i (by omega)) fun e' => h.apr i g (by omega) e'
    ap := fun i j hi hj hne x hxi hxj => by
      rw [hlen] at hi hj
      unfold setF at hxi hxj
      by_cases e1 : i = m.stores.length
      · rw [if_pos e1] at hxi
        rw [if_neg (by omega)] at hxj
        exact hF x hxi (mem_wBlocks.2 (.inr (.inr ⟨j, by omega, hxj⟩)))
      · rw [if_neg e1] at hxi
        by_cases e2 : j = m.stores.length
        · rw [if_pos e2] at hxj
          exact hF x hxj (mem_wBlocks.2 (.inr (.inr ⟨i, by omega, hxi⟩)))
        · rw [if_neg e2] at hxj
          exact h.ap i j (by omega) (by omega) hne x hxi hxj
    few := by rw [hlen]; exact hn
    calls := h.calls, lo := h.lo, hi := h.hi }

def Wld.has (m : Wld) (i : Int) : Bool := decide (0 ≤ i) && decide (i < m.stores.length)
theorem world_has (b N : Nat) (X : List Nat) (m : Wld) (i : Int) (w : World) (h : WldAt w b X N m) :
    Calls Try.prog 77 #[.pointer (some ⟨b, 0, none⟩), .int .i64 i] w fun e w' => e = .returned (.bool (m.has i)) ∧ w' = w := by
  obtain ⟨V, l, f, rfl, h⟩ := h
  obtain ⟨A, n, c, rfl⟩ : ∃ A m c, V = .slice A m c := by obtain ⟨A, c, e⟩ := Owns.form h.own; exact ⟨A, _, c, e⟩
  have hn : n = m.stores.length := by rw [← h.len]; exact (Owns.row (k := 2) (fun x => oneE.len x) h.own).1.symm
  have hf := h.few
  obtain ⟨c0, c1, c2, c3⟩ := h.box.cells
  clear h
  by_cases h0 : 0 ≤ i
  · by_cases h1 : i < (n : Int)
    · have hr : Hid (m.has i = true) := by unfold Hid Wld.has; rw [← hn]; simp [h0, h1]
      replace hn := Lib.hid hn
      go_enter Try.func77, Try.ntmps77
      go_wp2_with fail
      go_ret
      exact ⟨by rw [hr.out]; rfl, rfl⟩
    · have hr : Hid (m.has i = false) := by unfold Hid Wld.has; rw [← hn]; simp; omega
      replace hn := Lib.hid hn
      go_enter Try.func77, Try.ntmps77
      go_wp2_with fail
      go_ret
      exact ⟨by rw [hr.out]; rfl, rfl⟩
  · have hr : Hid (m.has i = false) := by unfold Hid Wld.has; simp; omega
    replace hn := Lib.hid hn
    go_enter Try.func77, Try.ntmps77
    go_wp2_with fail
    go_ret
    exact ⟨by rw [hr.out]; rfl, rfl⟩

theorem world_N (b N : Nat) (X : List Nat) (m : Wld) (w : World) (h : WldAt w b X N m) :
    Calls Try.prog 38 #[.pointer (some ⟨b, 0, none⟩)] w fun e w' => e = .returned (.int .i64 m.stores.length) ∧ w' = w := by
  obtain ⟨V, l, f, rfl, h⟩ := h
  obtain ⟨A, n, c, rfl⟩ : ∃ A m c, V = .slice A m c := by obtain ⟨A, c, e⟩ := Owns.form h.own; exact ⟨A, _, c, e⟩
  have hn : n = m.stores.length := by rw [← h.len]; exact (Owns.row (k := 2) (fun x => oneE.len x) h.own).1.symm
  obtain ⟨c0, c1, c2, c3⟩ := h.box.cells
  rw [← hn]
  clear h hn
  go_enter Try.func38, Try.ntmps38
  go_wp2_with fail
  go_ret
  exact ⟨rfl, rfl⟩
theorem world_Calls (b N : Nat) (X : List Nat) (m : Wld) (w : World) (h : WldAt w b X N m) :
    Calls Try.prog 39 #[.pointer (some ⟨b, 0, none⟩)] w fun e w' => e = .returned (.int .i64 m.calls) ∧ w' = w := by
  obtain ⟨V, l, f, rfl, h⟩ := h
  obtain ⟨c0, c1, c2, c3⟩ := h.box.cells
  clear h
  go_enter Try.func39, Try.ntmps39
  go_wp2_with fail
  go_ret
  exact ⟨rfl, rfl⟩
theorem world_Dark (b N : Nat) (X : List Nat) (m : Wld) (w : World) (h : WldAt w b X N m) :
    Calls Try.prog 40 #[.pointer (some ⟨b, 0, none⟩)] w fun e w' => e = .returned (.bool m.dark) ∧ w' = w := by
  obtain ⟨V, l, f, rfl, h⟩ := h
  obtain ⟨c0, c1, c2, c3⟩ := h.box.cells
  clear h
  go_enter Try.func40, Try.ntmps40
  go_wp2_with fail
  go_ret
  exact ⟨rfl, rfl⟩

def Wld.cut (m : Wld) (n : Int) : Wld × Int := if n < 0 then (m, 1) else ({ m with left := n }, 0)
theorem world_Cut (b N : Nat) (X : List Nat) (m : Wld) (n : Int) (hn : n ≤ 9223372036854775807) (w : World) (h : WldAt w b X N m) :
    Calls Try.prog 32 #[.pointer (some ⟨b, 0, none⟩), .int .i64 n] w fun e w' => e = .returned (.int .i64 (m.cut n).2) ∧ WldTo b X N (m.cut n).1 w w' := by
  have hsame := Lib.hid (WldTo.same h (Below.refl _ _))
  obtain ⟨V, l, f, rfl, h⟩ := h
  obtain ⟨c0, c1, c2, c3⟩ := h.box.cells
  have f2 := h.box.frozen 2
  by_cases h0 : n < 0
  · have hr : Hid (m.cut n = (m, 1)) := by unfold Hid Wld.cut; rw [if_pos h0]
    clear h
    go_enter Try.func32, Try.ntmps32
    go_wp2_with fail
    go_ret
    exact ⟨by rw [hr.out]; rfl, by rw [hr.out]; exact hsame.out⟩
  · have hr : Hid (m.cut n = ({ m with left := n }, 0)) := by unfold Hid Wld.cut; rw [if_neg h0]
    have hb := Lib.hid (h.box.set2 (.int .i64 n))
    replace h := Lib.hid h
    go_enter Try.func32, Try.ntmps32
    go_wp2_with fail
    go_ret
    refine ⟨by rw [hr.out]; rfl, by rw [hr.out]; exact ⟨_, ⟨V, l, f, rfl, h.out.set hb.out rfl h.out.calls (by dsimp only; omega) hn⟩, But.of_set _ (mem_wBlocks.2 (.inl rfl)), fun i hi => .inl hi⟩⟩
end Go.Proofs.Ytfkonpmnclknaaa

/-
  New, of a world.
-/
namespace Go.Proofs.Ytfkonpmnclknaaa
open Go.RowKit
attribute [local go_sem ↓] Go.wp_at_zero Go.wp_at_succ

def Wld.new (n : Nat) : Wld := ⟨List.replicate n (Sto.new, false), 0, -1, false⟩
theorem wnew_succ (n : Nat) : ({ Wld.new n with stores := (Wld.new n).stores ++ [(Sto.new, false)] } : Wld) = Wld.new (n + 1) := by
  unfold Wld.new
  simp [List.replicate_succ']
theorem wnew_len (n : Nat) : (Wld.new n).stores.length = n := by simp [Wld.new]

theorem world_New_bad (n : Int) (hn : n < 1 ∨ 12 < n) (w : World) :
    Calls Try.prog 28 #[.int .i64 n] w fun e w' => e = .returned (.tuple #[.pointer none, .int .i64 1]) ∧ w' = w := by
  by_cases h0 : n < 1
  · go_enter Try.func28, Try.ntmps28
    go_wp2_with fail
    go_ret2
    exact ⟨rfl, rfl⟩
  · have h1 : 12 < n := by omega
    go_enter Try.func28, Try.ntmps28
    go_wp2_with fail
    go_ret2
    exact ⟨rfl, rfl⟩

set_option maxHeartbeats 4000000 in
set_option maxRecDepth 100000 in
theorem world_New (n : Nat) (h1 : 1 ≤ n) (h12 : n ≤ 12) (w : World) :
    Calls Try.prog 28 #[.int .i64 n] w fun e w' => e = .returned (.tuple #[.pointer (some ⟨w.heap.size, 0, none⟩), .int .i64 0]) ∧ ∃ X, WldAt w' w.heap.size X 0 (Wld.new n) ∧ (∀ x ∈ X, w.heap.size ≤ x) ∧ Below w.heap.size w w' := by
  have bx0 := WB.new w (.slice none 0 0) (.int .i64 0) (.int .i64 (-1)) (.bool false)
  have hz0 : (w.alloc (.cells #[.slice none 0 0, .int .i64 0, .int .i64 (-1), .bool false] 98)).heap.size = w.heap.size + 1 := by simp
  have hb0 : Below w.heap.size w (w.alloc (.cells #[.slice none 0 0, .int .i64 0, .int .i64 (-1), .bool false] 98)) := (Below.refl _ w).alloc (Nat.le_refl _) _
  have hW0 : WldIn (w.alloc (.cells #[.slice none 0 0, .int .i64 0, .int .i64 (-1), .bool false] 98)) w.heap.size (.slice none 0 0) [] (fun _ => []) 0 (Wld.new 0) :=
    { box := bx0, own := Owns.nil_, len := rfl
      sto := by simp [Wld.new]
      apV := by simp [Value.ownBlock], apb := by simp [Wld.new], apr := by simp [Wld.new], ap := by simp [Wld.new], few := by simp [Wld.new], calls := by simp [Wld.new], lo := by simp [Wld.new], hi := by simp [Wld.new] }
  replace bx0 := Lib.hid bx0
  go_enter Try.func28, Try.ntmps28
  go_upto_region 4 with fail
  generalize (w.alloc (.cells #[.slice none 0 0, .int .i64 0, .int .i64 (-1), .bool false] 98)) = w0 at bx0 hz0 hb0 hW0 ⊢
  go_wp2_with fail
  go_loopw [14] (fun ti wr => ∃ (k : Nat) (V : Value) (l : List (Nat × Bool)) (f : Nat → List Nat), k ≤ n ∧ ti = .int .i64 k ∧ WldIn wr w.heap.size V l f 0 (Wld.new k) ∧ (∀ x ∈ wBlocks w.heap.size V f k, w.heap.size ≤ x) ∧ Below w.heap.size w wr) (fun ti _ => n - (intOf ti).toNat)
  case atStart => exact ⟨0, _, _, _, Nat.zero_le _, rfl, hW0, fun x hx => by rcases mem_wBlocks.1 hx with rfl | e | ⟨i, hi, _⟩; exact Nat.le_refl _; simp [Value.ownBlock] at e; omega, hb0⟩
  case round =>
    obtain ⟨k, V, l, f, hk, rfl, hW, hlo, hbr⟩ := hrel
    obtain ⟨wp, rfl⟩ : ∃ x : World, x = wr := ⟨_, rfl⟩
    by_cases hlt : k < n
    · obtain ⟨c0, c1, c2, c3⟩ := hW.box.cells
      have hzp : w.heap.size < wp.heap.size := hW.box.lt
      have hll : l.length = k := by rw [hW.len]; exact wnew_len k
      have hd : Below wp.heap.size wp wp.drew := (Below.refl _ _).drew
      go_upto_region 6 with fail
      refine region_held_tail 9 (fun W : World => W.cell? ⟨w.heap.size, 0, none⟩ = some V) (by kernel_rfl) (by kernel_rfl) ?_
      have hHeld : (fun W : World => W.cell? ⟨w.heap.size, 0, none⟩ = some V) wp.drew := c0
      (refine HT.takeL (i := 0) (v := ?_) rfl (by kernel_rfl) (fun _ _ _ h => h) (Or.inl ⟨by rfl, ?_⟩) (by assumption) ?_
       rotate_left
       · (intro w hSw; (try dsimp only at hSw); go_simp; (try with_reducible rfl))
       try simp only [Act.put, List.setIfInBounds_toArray, List.set_cons_zero, List.set_cons_succ])
      (refine HT.takeL (i := 1) (v := ?_) rfl (by kernel_rfl) (fun _ _ _ h => h) (Or.inl ⟨by rfl, ?_⟩) (by assumption) ?_
       rotate_left
       · (intro w hSw; (try dsimp only at hSw); go_simp; (try with_reducible rfl))
       try simp only [Act.put, List.setIfInBounds_toArray, List.set_cons_zero, List.set_cons_succ])
      (refine HT.takeL (i := 2) (v := ?_) rfl (by kernel_rfl) (fun _ _ _ h => h) (Or.inl ⟨by rfl, ?_⟩) (by assumption) ?_
       rotate_left
       · (intro w hSw; (try dsimp only at hSw); go_simp; (try with_reducible rfl))
       try simp only [Act.put, List.setIfInBounds_toArray, List.set_cons_zero, List.set_cons_succ])
      (refine HT.takeL (i := 3) (v := ?_) rfl (by kernel_rfl) (fun _ _ _ h => h) (Or.inl ⟨by rfl, ?_⟩) (by assumption) ?_
       rotate_left
       · (intro w hSw; (try dsimp only at hSw); go_simp; (try with_reducible rfl))
       try simp only [Act.put, List.setIfInBounds_toArray, List.set_cons_zero, List.set_cons_succ])
      (refine HT.takeL (i := 4) (v := ?_) rfl (by kernel_rfl) (fun _ _ _ h => h) (Or.inl ⟨by rfl, ?_⟩) (by assumption) ?_
       rotate_left
       · (intro w hSw; (try dsimp only at hSw); go_simp; (try with_reducible rfl))
       try simp only [Act.put, List.setIfInBounds_toArray, List.set_cons_zero, List.set_cons_succ])
      (refine HT.onlyL (i := 5) rfl (by kernel_rfl) (fun K hK => ?_)
       (go_simp; (refine (store_New wp.drew).mono ?_; rintro e w1 ⟨rfl, s1, b1⟩; have t1 := hd.trans b1))
       refine hK.out _ _ ?_ (fun hHeld => ?_)
       · (exact (t1.cell (p := ⟨w.heap.size, 0, none⟩) hzp).trans c0)
       clear hK K
       try simp only [Act.put, List.setIfInBounds_toArray, List.set_cons_zero, List.set_cons_succ])
      have hq : ∀ x ∈ [wp.drew.heap.size + 2, wp.drew.heap.size, wp.drew.heap.size + 1], wp.heap.size ≤ x := by simp
      generalize [wp.drew.heap.size + 2, wp.drew.heap.size, wp.drew.heap.size + 1] = F1 at s1 hq
      generalize wp.drew.heap.size + 2 = q1 at s1 ⊢
      (refine HT.takeL (i := 6) (v := ?_) rfl (by kernel_rfl) (fun _ _ _ h => h) (Or.inl ⟨by rfl, ?_⟩) (by assumption) ?_
       rotate_left
       · (intro w hSw; (try dsimp only at hSw); go_simp; (try with_reducible rfl))
       try simp only [Act.put, List.setIfInBounds_toArray, List.set_cons_zero, List.set_cons_succ])
      have cA : (w1.alloc (.cells #[.pointer (some ⟨q1, 0, none⟩), .bool false] 100)).cell? ⟨w.heap.size, 0, none⟩ = some V := (World.cell?_alloc_lt _ _ _ (by have := t1.size; simp; omega)).trans ((t1.cell (p := ⟨w.heap.size, 0, none⟩) hzp).trans c0)
      (refine HT.onlyL (i := 7) rfl (by kernel_rfl) (fun K hK => ?_)
       go_simp
       refine hK.out _ _ ?_ (fun hHeld => ?_)
       · (exact cA)
       clear hK K
       try simp only [Act.put, List.setIfInBounds_toArray, List.set_cons_zero, List.set_cons_succ])
      have bA : Below wp.heap.size wp (w1.alloc (.cells #[.pointer (some ⟨q1, 0, none⟩), .bool false] 100)) := t1.alloc t1.size _
      have sA := s1.below ((Below.refl _ w1).alloc (Nat.le_refl _) (.cells #[.pointer (some ⟨q1, 0, none⟩), .bool false] 100))
      have hWA := hW.block fun x hx => bA.block x (hW.lt x hx)
      have hoA := hWA.own
      (refine HT.onlyL (i := 8) rfl (by kernel_rfl) (fun K hK => ?_)
       ((apply Elem.step_one oneE (s := .tmp 20) (x := .tmp 23) (base := 0) (l := l) (y := (q1, false)); (case' hgd => rfl); (case' ho => rfl); (case' hs => rfl); (case' hx => rfl); (case' hown => exact (hoA)); (case' hy => exact (fun j u hu => by rcases j with _ | _ | j <;> simp [oneE, oneCells] at hu <;> subst hu <;> first | (go_simp; done) | exact newCell _ _ _ _ _)); (case' hl => exact (by omega)); (case' hbase => exact (by first | omega | (simp; try omega)))); intro v' w4 ho4 hg4 hat4)
       refine hK.out _ _ ?_ (fun hHeld => ?_)
       · (exact (World.cell?_of_block (a := ⟨w.heap.size, 0, none⟩) (hg4.block w.heap.size hWA.box.lt (fun e => hWA.apV e.symm))).trans cA)
       clear hK K
       try simp only [Act.put, List.setIfInBounds_toArray, List.set_cons_zero, List.set_cons_succ])
      refine HT.tail (by kernel_rfl) ?_
      simp only [List.drop_succ_cons, List.drop_zero]
      have hg5 : (w1.alloc (.cells #[.pointer (some ⟨q1, 0, none⟩), .bool false] 100)).grownBy w4 V.ownBlock := hg4
      have hF : ∀ x ∈ F1, x ∉ wBlocks w.heap.size V f (Wld.new k).stores.length := fun x hx hxb => by
        have h1 := hq x hx
        have h2 := hW.lt x hxb
        omega
      have hgr := hWA.grow sA hF ho4 hg4 hat4 (by rw [wnew_len]; omega)
      rw [wnew_succ, wnew_len] at hgr
      obtain ⟨A9, m9, c9, rfl⟩ : ∃ A m c, v' = .slice A m c := by obtain ⟨A, c, e⟩ := Owns.form ho4; exact ⟨A, _, c, e⟩
      have f4 := (hWA.box.grown hg4 hWA.apV).frozen 0
      obtain ⟨g0, _, _, _⟩ := (hWA.box.grown hg4 hWA.apV).cells
      have hlo2 : ∀ x ∈ wBlocks w.heap.size (.slice A9 m9 c9) (setF f k F1) (k + 1), w.heap.size ≤ x := fun x hx => by
        rcases mem_wBlocks.1 hx with rfl | e | ⟨i, hi, hxi⟩
        · exact Nat.le_refl _
        · rcases hat4 with e' | e'
          · exact hlo x (mem_wBlocks.2 (.inr (.inl (e'.symm.trans e))))
          · have := Option.some.inj (e'.symm.trans e)
            have := bA.size
            omega
        · unfold setF at hxi
          split at hxi
          · have := hq x hxi
            omega
          · exact hlo x (mem_wBlocks.2 (.inr (.inr ⟨i, by omega, hxi⟩)))
      have hbut : Below w.heap.size w (w4.setCell ⟨w.heap.size, 0, none⟩ (.slice A9 m9 c9)) := by
        have e1 : Below w.heap.size w (w1.alloc (.cells #[.pointer (some ⟨q1, 0, none⟩), .bool false] 100)) := hbr.trans (bA.mono (by omega))
        have e2 := (But.of_grown (F := V.ownBlock.toList) hg5 (by simp)).below (B := w.heap.size) e1.size (fun x hx => hlo x (mem_wBlocks.2 (.inr (.inl (by simpa using hx)))))
        exact (e1.trans e2).setCell (p := ⟨w.heap.size, 0, none⟩) (Nat.le_refl _) _
      replace hgr := Lib.hid hgr
      replace hlo2 := Lib.hid hlo2
      replace hbut := Lib.hid hbut
      clear hHeld cA hoA ho4 hg4 hg5 hat4 hWA sA bA hF c0 c1 c2 c3 hW hlo
      go_wp2_with fail
      go_roundw
      case rel => exact ⟨k + 1, _, _, _, by omega, by go_num, hgr.out, hlo2.out, hbut.out⟩
      case measure => simp [intOf]; omega
    · obtain rfl : k = n := by omega
      replace hW := Lib.hid hW
      replace hlo := Lib.hid hlo
      go_wp2_with fail
      go_ret2
      exact ⟨rfl, _, ⟨V, l, f, rfl, hW.out⟩, by rw [wnew_len]; exact hlo.out, hbr⟩
end Go.Proofs.Ytfkonpmnclknaaa
