/-
  The reference's world: how it lies in memory, what a call of it may change.
-/
import Derived.Test.YtfkonpmnclknaaaGreatWldH
import Derived.Test.YtfkonpmnclknaaaGreatRefT
namespace Go.Proofs.YtfkonpmnclknaaaGreat
open Go.RowKit

def ptCells (x : Nat) : List Value := [.pointer (some ⟨x, 0, none⟩)]
def ptE : Elem Nat where
  T := 76
  S := 73
  k := 1
  bytes := 8
  enc := ptCells
  z := .pointer none
  und := Tryz.underlying73
  info := by kernel_rfl
  zc := rfl
  pos := by decide
  small := by decide
  len := fun _ => rfl
  one := fun x u hu => by simp [ptCells] at hu; subst hu; rfl
def boCells (x : Bool) : List Value := [.bool x]
def boE : Elem Bool where
  T := 4
  S := 72
  k := 1
  bytes := 1
  enc := boCells
  z := .bool false
  und := Tryz.underlying72
  info := by kernel_rfl
  zc := rfl
  pos := by decide
  small := by decide
  len := fun _ => rfl
  one := fun x u hu => by simp [boCells] at hu; subst hu; rfl

/-- Block b is a box of the reference's world. -/
def XB (w : World) (b : Nat) (v0 v1 v2 v3 v4 : Value) : Prop := w.heap[b]? = some (.cells #[v0, v1, v2, v3, v4] 75)
section
variable {w w' : World} {b : Nat} {v0 v1 v2 v3 v4 : Value}
theorem XB.lt (h : XB w b v0 v1 v2 v3 v4) : b < w.heap.size := (Array.getElem?_eq_some_iff.1 h).1
theorem XB.cells (h : XB w b v0 v1 v2 v3 v4) : w.cell? ⟨b, 0, none⟩ = some v0 ∧ w.cell? ⟨b, 1, none⟩ = some v1 ∧ w.cell? ⟨b, 2, none⟩ = some v2 ∧ w.cell? ⟨b, 3, none⟩ = some v3 ∧ w.cell? ⟨b, 4, none⟩ = some v4 :=
  ⟨cell_of_row w b 0 _ _ _ h, cell_of_row w b 1 _ _ _ h, cell_of_row w b 2 _ _ _ h, cell_of_row w b 3 _ _ _ h, cell_of_row w b 4 _ _ _ h⟩
theorem XB.frozen (h : XB w b v0 v1 v2 v3 v4) (o : Nat) : w.frozen? ⟨b, o, none⟩ = false := by
  unfold XB at h
  unfold World.frozen?
  simp [h]
theorem XB.block (h : XB w b v0 v1 v2 v3 v4) (hb : w'.heap[b]? = w.heap[b]?) : XB w' b v0 v1 v2 v3 v4 := hb.trans h
theorem XB.grown {row : Option Nat} (h : XB w b v0 v1 v2 v3 v4) (hg : w.grownBy w' row) (hne : row ≠ some b) : XB w' b v0 v1 v2 v3 v4 := h.block (hg.block b h.lt (fun e => hne e.symm))
theorem XB.new (w : World) (v0 v1 v2 v3 v4 : Value) : XB (w.alloc (.cells #[v0, v1, v2, v3, v4] 75)) w.heap.size v0 v1 v2 v3 v4 := heap_alloc_new w _
theorem XB.set0 (h : XB w b v0 v1 v2 v3 v4) (u : Value) : XB (w.setCell ⟨b, 0, none⟩ u) b u v1 v2 v3 v4 := (heap_setCellS h u).trans rfl
theorem XB.set2 (h : XB w b v0 v1 v2 v3 v4) (u : Value) : XB (w.setCell ⟨b, 2, none⟩ u) b v0 v1 u v3 v4 := (heap_setCellS h u).trans rfl
theorem XB.set3 (h : XB w b v0 v1 v2 v3 v4) (u : Value) : XB (w.setCell ⟨b, 3, none⟩ u) b v0 v1 v2 u v4 := (heap_setCellS h u).trans rfl
theorem XB.set4 (h : XB w b v0 v1 v2 v3 v4) (u : Value) : XB (w.setCell ⟨b, 4, none⟩ u) b v0 v1 v2 v3 u := (heap_setCellS h u).trans rfl
end

structure RWIn (w : World) (b : Nat) (V U : Value) (l : List Nat) (f : Nat → List Nat) (m : Wld) : Prop where
  box : XB w b V U (.int .i64 m.calls) (.int .i64 m.left) (.bool m.dark)
  own : ptE.Own w 0 V l
  ownU : boE.Own w 0 U m.susp
  len : l.length = m.stores.length
  sto : ∀ i s u, m.stores[i]? = some (s, u) → ∃ q, l[i]? = some q ∧ RefAt w q (f i) s
  apV : V.ownBlock ≠ some b
  apU : U.ownBlock ≠ some b
  apVU : ∀ g, V.ownBlock = some g → U.ownBlock ≠ some g
  apb : ∀ i, i < m.stores.length → b ∉ f i
  apr : ∀ i g, i < m.stores.length → V.ownBlock = some g → g ∉ f i
  apu : ∀ i g, i < m.stores.length → U.ownBlock = some g → g ∉ f i
  ap : ∀ i j, i < m.stores.length → j < m.stores.length → i ≠ j → ∀ x ∈ f i, x ∉ f j
  few : m.stores.length ≤ 12
  calls : m.calls ≤ 1000000
  lo : -1 ≤ m.left
  hi : m.left ≤ 9223372036854775807
/-- The blocks of the reference's world. -/
def rBlocks (b : Nat) (V U : Value) (f : Nat → List Nat) (n : Nat) : List Nat := b :: (V.ownBlock.toList ++ (U.ownBlock.toList ++ (List.range n).flatMap f))
theorem mem_rBlocks {b n x : Nat} {V U : Value} {f : Nat → List Nat} : x ∈ rBlocks b V U f n ↔ x = b ∨ V.ownBlock = some x ∨ U.ownBlock = some x ∨ ∃ i, i < n ∧ x ∈ f i := by
  unfold rBlocks
  simp only [List.mem_cons, List.mem_append, Option.mem_toList, Option.mem_def, List.mem_flatMap, List.mem_range]
/-- Block b is a box of the reference's world m; X: its blocks. -/
def RWAt (w : World) (b : Nat) (X : List Nat) (m : Wld) : Prop := ∃ V U l f, X = rBlocks b V U f m.stores.length ∧ RWIn w b V U l f m
def RWTo (b : Nat) (X : List Nat) (m' : Wld) (w w' : World) : Prop := ∃ X', RWAt w' b X' m' ∧ But X w w' ∧ ∀ i ∈ X', i ∈ X ∨ w.heap.size ≤ i

section
variable {w w' w0 w1 : World} {b : Nat} {V U : Value} {l : List Nat} {f : Nat → List Nat} {m m' : Wld} {X : List Nat}
theorem RWIn.at_ (h : RWIn w b V U l f m) {i : Nat} (hi : i < m.stores.length) : ∃ s u q, m.stores[i]? = some (s, u) ∧ l[i]? = some q ∧ RefAt w q (f i) s := by
  have hx := List.getElem?_eq_getElem hi
  obtain ⟨q, h1, h2⟩ := h.sto i _ _ hx
  exact ⟨_, _, q, hx, h1, h2⟩
theorem RWIn.lt (h : RWIn w b V U l f m) : ∀ x ∈ rBlocks b V U f m.stores.length, x < w.heap.size := fun x hx => by
  rcases mem_rBlocks.1 hx with rfl | e | e | ⟨i, hi, hx⟩
  · exact h.box.lt
  · exact (h.own.within e).2
  · exact (h.ownU.within e).2
  · obtain ⟨s, u, q, _, _, hs⟩ := h.at_ hi
    exact hs.lt x hx
theorem RWAt.lt (h : RWAt w b X m) : ∀ x ∈ X, x < w.heap.size := by
  obtain ⟨V, U, l, f, rfl, h⟩ := h
  exact h.lt
theorem RWAt.mem (h : RWAt w b X m) : b ∈ X := by
  obtain ⟨V, U, l, f, rfl, h⟩ := h
  exact mem_rBlocks.2 (.inl rfl)
theorem RWIn.block (h : RWIn w b V U l f m) (hb : ∀ x ∈ rBlocks b V U f m.stores.length, w'.heap[x]? = w.heap[x]?) : RWIn w' b V U l f m :=
  { h with
    box := h.box.block (hb _ (mem_rBlocks.2 (.inl rfl)))
    own := h.own.blockS fun i e => hb _ (mem_rBlocks.2 (.inr (.inl e)))
    ownU := h.ownU.blockS fun i e => hb _ (mem_rBlocks.2 (.inr (.inr (.inl e))))
    sto := fun i s u hx => by
      obtain ⟨q, h1, h2⟩ := h.sto i s u hx
      exact ⟨q, h1, h2.block fun x hxf => hb x (mem_rBlocks.2 (.inr (.inr (.inr ⟨i, (List.getElem?_eq_some_iff.1 hx).1, hxf⟩))))⟩ }
theorem RWAt.block (h : RWAt w b X m) (hb : ∀ x ∈ X, w'.heap[x]? = w.heap[x]?) : RWAt w' b X m := by
  obtain ⟨V, U, l, f, rfl, h⟩ := h
  exact ⟨V, U, l, f, rfl, h.block hb⟩
theorem RWAt.but {F : List Nat} (h : RWAt w b X m) (hb : But F w w') (hF : ∀ i ∈ X, i ∉ F) : RWAt w' b X m := h.block fun i hi => hb.block i (h.lt i hi) (hF i hi)
theorem RWAt.below (h : RWAt w b X m) (hb : Below w.heap.size w w') : RWAt w' b X m := h.block fun i hi => hb.block i (h.lt i hi)
theorem RWTo.same (h : RWAt w b X m) (hb : Below w.heap.size w w') : RWTo b X m w w' := ⟨X, h.below hb, But.of_below hb, fun _ hi => .inl hi⟩
theorem RWTo.ahead (hb : Below w.heap.size w w0) (h : RWTo b X m w0 w') : RWTo b X m w w' := by
  obtain ⟨X1, h1, h2, h3⟩ := h
  exact ⟨X1, h1, (But.of_below hb).trans h2 fun i hi => .inl hi, fun i hi => (h3 i hi).imp id fun e => Nat.le_trans hb.size e⟩
theorem RWTo.then_ (h : RWTo b X m w w1) (hb : Below w1.heap.size w1 w') : RWTo b X m w w' := by
  obtain ⟨X1, h1, h2, h3⟩ := h
  exact ⟨X1, h1.below hb, h2.trans (But.of_below (F := []) hb) (by simp), h3⟩
theorem RWTo.trans {m1 m2 : Wld} (h : RWTo b X m1 w w1) (k : ∀ X1, RWAt w1 b X1 m1 → RWTo b X1 m2 w1 w') : RWTo b X m2 w w' := by
  obtain ⟨X1, h1, h2, h3⟩ := h
  obtain ⟨X2, k1, k2, k3⟩ := k X1 h1
  refine ⟨X2, k1, h2.trans k2 h3, fun i hi => ?_⟩
  rcases k3 i hi with e | e
  · exact h3 i e
  · exact .inr (Nat.le_trans h2.size e)

/-- A plain cell of the box is another one. -/
theorem RWIn.set {o : Nat} {u : Value} (h : RWIn w b V U l f m) (hb : XB (w.setCell ⟨b, o, none⟩ u) b V U (.int .i64 m'.calls) (.int .i64 m'.left) (.bool m'.dark)) (hs : m'.stores = m.stores) (hc : m'.calls ≤ 1000000) (hl : -1 ≤ m'.left) (hh : m'.left ≤ 9223372036854775807) : RWIn (w.setCell ⟨b, o, none⟩ u) b V U l f m' :=
  { box := hb
    own := h.own.blockS fun i e => Go.Deep.blk_setCell_other _ _ _ _ (fun e' => h.apV (by rw [e, e']))
    ownU := by
      have e : m'.susp = m.susp := by unfold Wld.susp; rw [hs]
      rw [e]
      exact h.ownU.blockS fun i e => Go.Deep.blk_setCell_other _ _ _ _ (fun e' => h.apU (by rw [e, e']))
    len := by rw [hs]; exact h.len
    sto := fun i s u' hx => by
      rw [hs] at hx
      obtain ⟨q, h1, h2⟩ := h.sto i s u' hx
      exact ⟨q, h1, h2.block fun x hxf => Go.Deep.blk_setCell_other _ _ _ _ (fun e => h.apb i (List.getElem?_eq_some_iff.1 hx).1 (by rw [← show x = b from e]; exact hxf))⟩
    apV := h.apV, apU := h.apU, apVU := h.apVU
    apb := by rw [hs]; exact h.apb
    apr := by rw [hs]; exact h.apr
    apu := by rw [hs]; exact h.apu
    ap := by rw [hs]; exact h.ap
    few := by rw [hs]; exact h.few
    calls := hc, lo := hl, hi := hh }

theorem susp_put (m : Wld) (i : Nat) (s : Sto) : (m.put i s).susp = m.susp := by
  unfold Wld.susp
  refine List.ext_getElem? fun j => ?_
  rw [List.getElem?_map, List.getElem?_map, put_at]
  cases m.stores[j]? with
  | none => rfl
  | some p =>
    simp only [Option.map_some]
    split <;> rfl
/-- A call of one store. -/
theorem RWIn.call {i q : Nat} {s s' : Sto} {u : Bool} (h : RWIn w b V U l f m) (hx : m.stores[i]? = some (s, u)) (hq : l[i]? = some q) (k : RefTo q (f i) s' w w') :
    ∃ f', RWIn w' b V U l f' (m.put i s') ∧ But (f i) w w' ∧ ∀ x ∈ rBlocks b V U f' m.stores.length, x ∈ rBlocks b V U f m.stores.length ∨ w.heap.size ≤ x := by
  obtain ⟨F', k1, k2, k3⟩ := k
  have hil := (List.getElem?_eq_some_iff.1 hx).1
  have hpl : (m.put i s').stores.length = m.stores.length := by simp [Wld.put]
  have hnew : ∀ {x : Nat}, x < w.heap.size → x ∉ f i → x ∉ F' := fun {x} hx hf hF => by
    rcases k3 x hF with e | e
    · exact hf e
    · omega
  have hflt : ∀ j, j < m.stores.length → ∀ x ∈ f j, x < w.heap.size := fun j hj x hxf => h.lt x (mem_rBlocks.2 (.inr (.inr (.inr ⟨j, hj, hxf⟩))))
  refine ⟨setF f i F', ?_, k2, ?_⟩
  · exact
    { box := h.box.block (k2.block _ h.box.lt (h.apb i hil))
      own := h.own.blockS fun g e => k2.block _ (h.own.within e).2 (h.apr i g hil e)
      ownU := by rw [susp_put]; exact h.ownU.blockS fun g e => k2.block _ (h.ownU.within e).2 (h.apu i g hil e)
      len := by rw [hpl]; exact h.len
      sto := fun j t v hj => by
        rw [put_at] at hj
        cases hmj : m.stores[j]? with
        | none => rw [hmj] at hj; simp at hj
        | some p =>
          obtain ⟨t0, v0⟩ := p
          rw [hmj] at hj
          simp only [Option.map_some, Option.some.injEq] at hj
          by_cases hij : i = j
          · subst hij
            rw [if_pos rfl] at hj
            cases hj
            rw [hx] at hmj
            cases hmj
            exact ⟨q, hq, by unfold setF; rw [if_pos rfl]; exact k1⟩
          · rw [if_neg hij] at hj
            cases hj
            obtain ⟨q', h1, h2⟩ := h.sto j _ _ hmj
            have hjl := (List.getElem?_eq_some_iff.1 hmj).1
            refine ⟨q', h1, ?_⟩
            unfold setF
            rw [if_neg (fun e => hij e.symm)]
            exact h2.but k2 fun x hxf hf => h.ap i j hil hjl hij x hf hxf
      apV := h.apV, apU := h.apU, apVU := h.apVU
      apb := fun j hj => by
        rw [hpl] at hj
        unfold setF
        split
        · exact hnew h.box.lt (h.apb i hil)
        · exact h.apb j hj
      apr := fun j g hj e => by
        rw [hpl] at hj
        unfold setF
        split
        · exact hnew (h.own.within e).2 (h.apr i g hil e)
        · exact h.apr j g hj e
      apu := fun j g hj e => by
        rw [hpl] at hj
        unfold setF
        split
        · exact hnew (h.ownU.within e).2 (h.apu i g hil e)
        · exact h.apu j g hj e
      ap := fun j j' hj hj' hne x hxj hxj' => by
        rw [hpl] at hj hj'
        unfold setF at hxj hxj'
        by_cases e1 : j = i
        · rw [if_pos e1] at hxj
          rw [if_neg (by omega)] at hxj'
          exact hnew (hflt j' hj' x hxj') (fun hf => h.ap i j' hil hj' (by omega) x hf hxj') hxj
        · rw [if_neg e1] at hxj
          by_cases e2 : j' = i
          · rw [if_pos e2] at hxj'
            exact hnew (hflt j hj x hxj) (fun hf => h.ap i j hil hj (by omega) x hf hxj) hxj'
          · rw [if_neg e2] at hxj'
            exact h.ap j j' hj hj' hne x hxj hxj'
      few := by rw [hpl]; exact h.few
      calls := h.calls, lo := h.lo, hi := h.hi }
  · intro x hxb
    rcases mem_rBlocks.1 hxb with rfl | e | e | ⟨j, hj, hxf⟩
    · exact .inl (mem_rBlocks.2 (.inl rfl))
    · exact .inl (mem_rBlocks.2 (.inr (.inl e)))
    · exact .inl (mem_rBlocks.2 (.inr (.inr (.inl e))))
    · unfold setF at hxf
      split at hxf
      · rcases k3 x hxf with e | e
        · exact .inl (mem_rBlocks.2 (.inr (.inr (.inr ⟨i, hil, e⟩))))
        · exact .inr e
      · exact .inl (mem_rBlocks.2 (.inr (.inr (.inr ⟨j, hj, hxf⟩))))
end

theorem RowAt.pt {w : World} {B n : Nat} {A : Option Addr} {l : List Nat} (h : RowAt 1 ptCells w B A n l) {i : Nat} (hi : i < n) : ∃ b off p, A = some ⟨b, off, none⟩ ∧ b < B ∧ l[i]? = some p ∧ w.cell? ⟨b, off + i, none⟩ = some (.pointer (some ⟨p, 0, none⟩)) := by
  obtain ⟨hl, _, hc⟩ := h
  obtain ⟨b, off, e, hb, hc⟩ := hc (by omega)
  have hx : l[i]? = some (l[i]'(by omega)) := List.getElem?_eq_getElem (by omega)
  exact ⟨b, off, _, e, hb, hx, by simpa using hc i _ hx 0 _ rfl⟩
theorem RowAt.bo {w : World} {B n : Nat} {A : Option Addr} {l : List Bool} (h : RowAt 1 boCells w B A n l) {i : Nat} (hi : i < n) : ∃ b off p, A = some ⟨b, off, none⟩ ∧ b < B ∧ l[i]? = some p ∧ w.cell? ⟨b, off + i, none⟩ = some (.bool p) := by
  obtain ⟨hl, _, hc⟩ := h
  obtain ⟨b, off, e, hb, hc⟩ := hc (by omega)
  have hx : l[i]? = some (l[i]'(by omega)) := List.getElem?_eq_getElem (by omega)
  exact ⟨b, off, _, e, hb, hx, by simpa using hc i _ hx 0 _ rfl⟩
theorem RWIn.rowForm {w : World} {b : Nat} {V U : Value} {l : List Nat} {f : Nat → List Nat} {m : Wld} (h : RWIn w b V U l f m) (hn : 0 < m.stores.length) : ∃ g c, V = .slice (some ⟨g, 0, none⟩) m.stores.length c := by
  rcases h.own.2 with ⟨e, h0⟩ | ⟨g, cap, cur, e, hg, hh, _⟩
  · rw [h.len] at h0
    omega
  · rw [h.len] at e
    exact ⟨g, cap, e⟩
theorem susp_len (m : Wld) : m.susp.length = m.stores.length := by simp [Wld.susp]
theorem RWIn.suspForm {w : World} {b : Nat} {V U : Value} {l : List Nat} {f : Nat → List Nat} {m : Wld} (h : RWIn w b V U l f m) (hn : 0 < m.stores.length) : ∃ g c, U = .slice (some ⟨g, 0, none⟩) m.stores.length c ∧ (∀ o, w.frozen? ⟨g, o, none⟩ = false) := by
  rcases h.ownU.2 with ⟨e, h0⟩ | ⟨g, cap, cur, e, hg, hh, _⟩
  · rw [susp_len] at h0
    omega
  · rw [susp_len] at e
    exact ⟨g, cap, e, fun o => by simp [World.frozen?, hh]⟩
end Go.Proofs.YtfkonpmnclknaaaGreat
/-
  A world of the reference that is being made; New.
-/
namespace Go.Proofs.YtfkonpmnclknaaaGreat
open Go.RowKit
attribute [local go_sem ↓] Go.wp_at_zero Go.wp_at_succ

/-- A world that has its first k stores. -/
structure RPart (w : World) (b : Nat) (V U : Value) (l : List Nat) (f : Nat → List Nat) (k : Nat) (m : Wld) : Prop where
  box : XB w b V U (.int .i64 m.calls) (.int .i64 m.left) (.bool m.dark)
  own : ptE.Own w 0 V l
  ownU : boE.Own w 0 U m.susp
  len : l.length = k
  sto : ∀ i s u, i < k → m.stores[i]? = some (s, u) → ∃ q, l[i]? = some q ∧ RefAt w q (f i) s
  old : ∀ i, i < k → ∀ x ∈ f i, x < w.heap.size
  apV : V.ownBlock ≠ some b
  apU : U.ownBlock ≠ some b
  apVU : ∀ g, V.ownBlock = some g → U.ownBlock ≠ some g
  apb : ∀ i, i < k → b ∉ f i
  apr : ∀ i g, i < k → V.ownBlock = some g → g ∉ f i
  apu : ∀ i g, i < k → U.ownBlock = some g → g ∉ f i
  ap : ∀ i j, i < k → j < k → i ≠ j → ∀ x ∈ f i, x ∉ f j
theorem RPart.below {w w' : World} {b k : Nat} {V U : Value} {l : List Nat} {f : Nat → List Nat} {m : Wld} (h : RPart w b V U l f k m) (hb : Below w.heap.size w w') : RPart w' b V U l f k m :=
  { h with
    box := h.box.block (hb.block _ h.box.lt)
    own := h.own.blockS fun i e => hb.block _ (h.own.within e).2
    ownU := h.ownU.blockS fun i e => hb.block _ (h.ownU.within e).2
    sto := fun i s u hi hx => by
      obtain ⟨q, h1, h2⟩ := h.sto i s u hi hx
      exact ⟨q, h1, h2.below hb⟩
    old := fun i hi x hx => Nat.lt_of_lt_of_le (h.old i hi x hx) hb.size }
theorem RPart.grow {w w4 : World} {b k q : Nat} {V V' U : Value} {l : List Nat} {f : Nat → List Nat} {m : Wld} {F : List Nat} {s : Sto} {u : Bool} (h : RPart w b V U l f k m) (hx : m.stores[k]? = some (s, u)) (hs : RefAt w q F s) (hF : ∀ x ∈ F, x ≠ b ∧ V.ownBlock ≠ some x ∧ U.ownBlock ≠ some x ∧ ∀ i, i < k → x ∉ f i)
    (ho : ptE.Own w4 0 V' (l ++ [q])) (hg : w.grownBy w4 V.ownBlock) (hat : V'.ownBlock = V.ownBlock ∨ V'.ownBlock = some w.heap.size) :
    RPart (w4.setCell ⟨b, 0, none⟩ V') b V' U (l ++ [q]) (setF f k F) (k + 1) m := by
  have hV : ∀ {x : Nat}, x < w.heap.size → V.ownBlock ≠ some x → V'.ownBlock ≠ some x := fun {x} hx hv e => by
    rcases hat with e' | e'
    · exact hv (e'.symm.trans e)
    · have := Option.some.inj (e'.symm.trans e)
      omega
  have hstand : ∀ x, x < w.heap.size → x ≠ b → V.ownBlock ≠ some x → (w4.setCell ⟨b, 0, none⟩ V').heap[x]? = w.heap[x]? := fun x hx hxb hxv =>
    (Go.Deep.blk_setCell_other _ _ _ _ hxb).trans (hg.block x hx (fun e => hxv e.symm))
  have hUl : ∀ g, U.ownBlock = some g → g < w.heap.size := fun g e => (h.ownU.within e).2
  exact
  { box := (h.box.grown hg h.apV).set0 V'
    own := ho.blockS fun i e => Go.Deep.blk_setCell_other _ _ _ _ (fun e' => hV h.box.lt h.apV (by rw [e, e']))
    ownU := h.ownU.blockS fun i e => hstand i (hUl i e) (fun e' => h.apU (by rw [e, e'])) (fun e' => h.apVU i e' e)
    len := by simp [h.len]
    sto := fun i t v hi hit => by
      rcases Nat.lt_or_ge i k with hik | hik
      · obtain ⟨p, h1, h2⟩ := h.sto i t v hik hit
        refine ⟨p, by rw [List.getElem?_append_left (by rw [h.len]; exact hik)]; exact h1, ?_⟩
        unfold setF
        rw [if_neg (by omega)]
        exact h2.block fun x hxf => hstand x (h2.lt x hxf) (fun e => h.apb i hik (by rw [← e]; exact hxf)) (fun e => h.apr i x hik e hxf)
      · obtain rfl : i = k := by omega
        rw [hx] at hit
        cases hit
        refine ⟨q, by rw [← h.len, List.getElem?_append_right (Nat.le_refl _)]; simp, ?_⟩
        unfold setF
        rw [if_pos rfl]
        exact hs.block fun x hxf => hstand x (hs.lt x hxf) (hF x hxf).1 (hF x hxf).2.1
    old := fun i hi x hxi => by
      have hz : w.heap.size ≤ (w4.setCell ⟨b, 0, none⟩ V').heap.size := by simpa using hg.size
      unfold setF at hxi
      split at hxi
      · exact Nat.lt_of_lt_of_le (hs.lt x hxi) hz
      · exact Nat.lt_of_lt_of_le (h.old i (by omega) x hxi) hz
    apV := hV h.box.lt h.apV
    apU := h.apU
    apVU := fun g e e' => by
      have hgl := hUl g e'
      exact hV hgl (fun e2 => h.apVU g e2 e') e
    apb := fun i hi => by
      unfold setF
      split
      · exact fun hb => (hF b hb).1 rfl
      · exact h.apb i (by omega)
    apr := fun i g hi e => by
      have key : ∀ F' : List Nat, (∀ x ∈ F', x < w.heap.size) → (V.ownBlock = some g → g ∉ F') → g ∉ F' := fun F' hl hv hgF => by
        rcases hat with e' | e'
        · exact hv (e'.symm.trans e) hgF
        · have := Option.some.inj (e'.symm.trans e)
          have := hl g hgF
          omega
      unfold setF
      split
      · exact key F hs.lt fun e' hgF => (hF g hgF).2.1 e'
      · exact key (f i) (h.old i (by omega)) fun e' => h.apr i g (by omega) e'
    apu := fun i g hi e => by
      unfold setF
      split
      · exact fun hgF => (hF g hgF).2.2.1 e
      · exact h.apu i g (by omega) e
    ap := fun i j hi hj hne x hxi hxj => by
      unfold setF at hxi hxj
      by_cases e1 : i = k
      · rw [if_pos e1] at hxi
        rw [if_neg (by omega)] at hxj
        exact (hF x hxi).2.2.2 j (by omega) hxj
      · rw [if_neg e1] at hxi
        by_cases e2 : j = k
        · rw [if_pos e2] at hxj
          exact (hF x hxj).2.2.2 i (by omega) hxi
        · rw [if_neg e2] at hxj
          exact h.ap i j (by omega) (by omega) hne x hxi hxj }
theorem RPart.done {w : World} {b : Nat} {V U : Value} {l : List Nat} {f : Nat → List Nat} {m : Wld} (h : RPart w b V U l f m.stores.length m) (hf : m.stores.length ≤ 12) (hc : m.calls ≤ 1000000) (h1 : -1 ≤ m.left) (h2 : m.left ≤ 9223372036854775807) : RWIn w b V U l f m :=
  { box := h.box, own := h.own, ownU := h.ownU, len := h.len
    sto := fun i s u hx => h.sto i s u (List.getElem?_eq_some_iff.1 hx).1 hx
    apV := h.apV, apU := h.apU, apVU := h.apVU, apb := h.apb, apr := h.apr, apu := h.apu, ap := h.ap
    few := hf, calls := hc, lo := h1, hi := h2 }

def fcells (n : Nat) : Array Value := (List.replicate n (.bool false)).toArray
theorem make_boolsN {n : Nat} (h : n = 1 ∨ n = 2 ∨ n = 3 ∨ n = 4 ∨ n = 5 ∨ n = 6 ∨ n = 7 ∨ n = 8 ∨ n = 9 ∨ n = 10 ∨ n = 11 ∨ n = 12) (W : World) : (Instr.makeSlice 72 (.int .i64 n) (.int .i64 n)).run Tryz.prog W = .ok (.slice (some ⟨W.heap.size, 0, none⟩) n n) (W.alloc (.cells (fcells n) 4)) := by
  rcases h with rfl | rfl | rfl | rfl | rfl | rfl | rfl | rfl | rfl | rfl | rfl | rfl <;> kernel_rfl
theorem make_bools (n : Nat) (h1 : 1 ≤ n) (h2 : n ≤ 12) (W : World) : (Instr.makeSlice 72 (.int .i64 (n : Int)) (.int .i64 (n : Int))).run Tryz.prog W = .ok (.slice (some ⟨W.heap.size, 0, none⟩) n n) (W.alloc (.cells (fcells n) 4)) :=
  make_boolsN (by omega) W
theorem flat_falses : ∀ n : Nat, (List.replicate n false).flatMap boCells = List.replicate n (.bool false)
  | 0 => rfl
  | n + 1 => by rw [List.replicate_succ, List.flatMap_cons, flat_falses n, List.replicate_succ]; rfl
theorem own_falses (n : Nat) (hn : n ≤ 12) (W : World) : boE.Own (W.alloc (.cells (fcells n) 4)) W.heap.size (.slice (some ⟨W.heap.size, 0, none⟩) n n) (List.replicate n false) := by
  refine ⟨by rw [flat_len (k := 1) (fun x => boE.len x), List.length_replicate]; rfl, .inr ⟨W.heap.size, n, fcells n, by rw [List.length_replicate], Nat.le_refl _, heap_alloc_new W _, by rw [List.length_replicate]; exact Nat.le_refl _, by unfold maxLen; omega, by simp [fcells, boE], ?_⟩⟩
  rw [List.length_replicate, show boE.k = 1 from rfl, Nat.mul_one]
  show (fcells n).toList.take n = (List.replicate n false).flatMap boCells
  rw [flat_falses]
  unfold fcells
  simp

theorem ref08_New_bad (n : Int) (hn : n < 1 ∨ 12 < n) (w : World) :
    Calls Tryz.prog 12 #[.int .i64 n] w fun e w' => e = .returned (.tuple #[.pointer none, .int .i64 1]) ∧ w' = w := by
  by_cases h0 : n < 1
  · go_enter Tryz.func12, Tryz.ntmps12
    go_wp2_with fail
    go_ret2
    exact ⟨rfl, rfl⟩
  · have h1 : 12 < n := by omega
    go_enter Tryz.func12, Tryz.ntmps12
    go_wp2_with fail
    go_ret2
    exact ⟨rfl, rfl⟩

set_option maxHeartbeats 4000000 in
set_option maxRecDepth 100000 in
theorem ref08_New (n : Nat) (h1 : 1 ≤ n) (h12 : n ≤ 12) (w : World) :
    Calls Tryz.prog 12 #[.int .i64 n] w fun e w' => ∃ b X, e = .returned (.tuple #[.pointer (some ⟨b, 0, none⟩), .int .i64 0]) ∧ RWAt w' b X (Wld.new n) ∧ (∀ x ∈ X, w.heap.size ≤ x) ∧ Below w.heap.size w w' := by
  have hmk := make_bools n h1 h12
  have ho0 := own_falses n h12 w
  have hbx := XB.new (w.alloc (.cells (fcells n) 4)) (.slice none 0 0) (.slice (some ⟨w.heap.size, 0, none⟩) n n) (.int .i64 0) (.int .i64 (-1)) (.bool false)
  have hal : Below (w.alloc (.cells (fcells n) 4)).heap.size (w.alloc (.cells (fcells n) 4)) ((w.alloc (.cells (fcells n) 4)).alloc (.cells #[.slice none 0 0, .slice (some ⟨w.heap.size, 0, none⟩) n n, .int .i64 0, .int .i64 (-1), .bool false] 75)) := (Below.refl _ _).alloc (Nat.le_refl _) _
  have hb0 : Below w.heap.size w ((w.alloc (.cells (fcells n) 4)).alloc (.cells #[.slice none 0 0, .slice (some ⟨w.heap.size, 0, none⟩) n n, .int .i64 0, .int .i64 (-1), .bool false] 75)) := ((Below.refl _ w).alloc (Nat.le_refl _) _).alloc (by simp) _
  have hz0 : ((w.alloc (.cells (fcells n) 4)).alloc (.cells #[.slice none 0 0, .slice (some ⟨w.heap.size, 0, none⟩) n n, .int .i64 0, .int .i64 (-1), .bool false] 75)).heap.size = w.heap.size + 1 + 1 := by simp
  have hsu : (Wld.new n).susp = List.replicate n false := by unfold Wld.susp Wld.new; simp
  have hP0 : RPart ((w.alloc (.cells (fcells n) 4)).alloc (.cells #[.slice none 0 0, .slice (some ⟨w.heap.size, 0, none⟩) n n, .int .i64 0, .int .i64 (-1), .bool false] 75)) (w.heap.size + 1) (.slice none 0 0) (.slice (some ⟨w.heap.size, 0, none⟩) n n) [] (fun _ => []) 0 (Wld.new n) :=
    { box := by simpa [Wld.new] using hbx
      own := Owns.nil_
      ownU := by rw [hsu]; exact (Owns.from ho0 (Nat.zero_le _)).blockS fun i e => hal.block i (by cases e; simp)
      len := rfl
      sto := fun i s u hi => absurd hi (Nat.not_lt_zero i)
      old := fun i hi => absurd hi (Nat.not_lt_zero i)
      apV := by simp [Value.ownBlock]
      apU := by simp [Value.ownBlock]
      apVU := by simp [Value.ownBlock]
      apb := fun i hi => absurd hi (Nat.not_lt_zero i)
      apr := fun i g hi => absurd hi (Nat.not_lt_zero i)
      apu := fun i g hi => absurd hi (Nat.not_lt_zero i)
      ap := fun i j hi => absurd hi (Nat.not_lt_zero i) }
  replace hbx := Lib.hid hbx
  replace ho0 := Lib.hid ho0
  replace hsu := Lib.hid hsu
  clear hal
  go_enter Tryz.func12, Tryz.ntmps12
  go_wp2_with fail
  generalize hW0 : ((w.alloc (.cells (fcells n) 4)).alloc (.cells #[.slice none 0 0, .slice (some ⟨w.heap.size, 0, none⟩) n n, .int .i64 0, .int .i64 (-1), .bool false] 75)) = w0 at hP0 hb0 hz0 ⊢
  clear hW0
  go_loopw [5] (fun ti wr => ∃ (k : Nat) (V : Value) (l : List Nat) (f : Nat → List Nat), k ≤ n ∧ ti = .int .i64 k ∧ RPart wr (w.heap.size + 1) V (.slice (some ⟨w.heap.size, 0, none⟩) n n) l f k (Wld.new n) ∧ (∀ x ∈ rBlocks (w.heap.size + 1) V (.slice (some ⟨w.heap.size, 0, none⟩) n n) f k, w.heap.size ≤ x) ∧ Below w.heap.size w wr) (fun ti _ => n - (intOf ti).toNat)
  case atStart => exact ⟨0, _, _, _, Nat.zero_le _, rfl, hP0, fun x hx => by
    rcases mem_rBlocks.1 hx with rfl | e | e | ⟨i, hi, _⟩
    · omega
    · simp [Value.ownBlock] at e
    · have e' : w.heap.size = x := Option.some.inj e
      omega
    · omega, hb0⟩
  case round =>
    obtain ⟨k, V, l, f, hk, rfl, hP, hlo, hbr⟩ := hrel
    obtain ⟨wp, rfl⟩ : ∃ x : World, x = wr := ⟨_, rfl⟩
    by_cases hlt : k < n
    · obtain ⟨c0, c1, c2, c3, c4⟩ := hP.box.cells
      have hzp : w.heap.size + 1 < wp.heap.size := hP.box.lt
      have hll : l.length = k := hP.len
      have hd : Below wp.heap.size wp wp.drew := (Below.refl _ _).drew
      have hx : (Wld.new n).stores[k]? = some (Sto.new, false) := by unfold Wld.new; rw [List.getElem?_replicate, if_pos hlt]
      replace hx := Lib.hid hx
      go_upto_region 7 with fail
      refine region_held_tail 8 (fun W : World => W.cell? ⟨w.heap.size + 1, 0, none⟩ = some V) (by kernel_rfl) (by kernel_rfl) ?_
      have hHeld : (fun W : World => W.cell? ⟨w.heap.size + 1, 0, none⟩ = some V) wp.drew := c0
      (refine HT.takeL (i := 0) (v := ?_) rfl (by kernel_rfl) (fun _ _ _ h => h) (Or.inl ⟨by rfl, ?_⟩) (by assumption) ?_
       rotate_left
       · (intro w hSw; (try dsimp only at hSw); go_simp; (try with_reducible rfl))
       try simp only [Act.put, List.setIfInBounds_toArray, List.set_cons_zero, List.set_cons_succ])
      (refine HT.takeL (i := 1) (v := ?_) rfl (by kernel_rfl) (fun _ _ _ h => h) (Or.inl ⟨by rfl, ?_⟩) (by assumption) ?_
       rotate_left
       · (intro w hSw; (try dsimp only at hSw); go_simp; (try with_reducible rfl))
       try simp only [Act.put, List.setIfInBounds_toArray, List.set_cons_zero, List.set_cons_succ])
      (refine HT.takeL (i := 2) (v := ?_) rfl (by kernel_rfl) (fun _ _ _ h => h) (Or.inl ⟨by rfl, ?_⟩) (by assumption) ?_
       rotate_left
       · (intro w hSw; (try dsimp only at hSw); go_simp; (try with_reducible rfl))
       try simp only [Act.put, List.setIfInBounds_toArray, List.set_cons_zero, List.set_cons_succ])
      (refine HT.takeL (i := 3) (v := ?_) rfl (by kernel_rfl) (fun _ _ _ h => h) (Or.inl ⟨by rfl, ?_⟩) (by assumption) ?_
       rotate_left
       · (intro w hSw; (try dsimp only at hSw); go_simp; (try with_reducible rfl))
       try simp only [Act.put, List.setIfInBounds_toArray, List.set_cons_zero, List.set_cons_succ])
      (refine HT.takeL (i := 4) (v := ?_) rfl (by kernel_rfl) (fun _ _ _ h => h) (Or.inl ⟨by rfl, ?_⟩) (by assumption) ?_
       rotate_left
       · (intro w hSw; (try dsimp only at hSw); go_simp; (try with_reducible rfl))
       try simp only [Act.put, List.setIfInBounds_toArray, List.set_cons_zero, List.set_cons_succ])
      (refine HT.onlyL (i := 5) rfl (by kernel_rfl) (fun K hK => ?_)
       (go_simp; (refine (ref07_New wp.drew).mono ?_; rintro e w1 ⟨rfl, s1, b1⟩; have t1 := hd.trans b1))
       refine hK.out _ _ ?_ (fun hHeld => ?_)
       · (exact (t1.cell (p := ⟨w.heap.size + 1, 0, none⟩) hzp).trans c0)
       clear hK K
       try simp only [Act.put, List.setIfInBounds_toArray, List.set_cons_zero, List.set_cons_succ])
      have hq : ∀ x ∈ [wp.drew.heap.size], wp.heap.size ≤ x := by simp
      generalize [wp.drew.heap.size] = F1 at s1 hq
      generalize wp.drew.heap.size = q1 at s1 ⊢
      have cA : (w1.alloc (.cells #[.pointer (some ⟨q1, 0, none⟩)] 76)).cell? ⟨w.heap.size + 1, 0, none⟩ = some V := (World.cell?_alloc_lt _ _ _ (by have := t1.size; simp; omega)).trans ((t1.cell (p := ⟨w.heap.size + 1, 0, none⟩) hzp).trans c0)
      (refine HT.onlyL (i := 6) rfl (by kernel_rfl) (fun K hK => ?_)
       go_simp
       refine hK.out _ _ ?_ (fun hHeld => ?_)
       · (exact cA)
       clear hK K
       try simp only [Act.put, List.setIfInBounds_toArray, List.set_cons_zero, List.set_cons_succ])
      have bA : Below wp.heap.size wp (w1.alloc (.cells #[.pointer (some ⟨q1, 0, none⟩)] 76)) := t1.alloc t1.size _
      have sA := s1.below ((Below.refl _ w1).alloc (Nat.le_refl _) (.cells #[.pointer (some ⟨q1, 0, none⟩)] 76))
      have hPA := hP.below bA
      have hoA := hPA.own
      (refine HT.onlyL (i := 7) rfl (by kernel_rfl) (fun K hK => ?_)
       ((apply Elem.step_one ptE (s := .tmp 25) (x := .tmp 27) (base := 0) (l := l) (y := q1); (case' hgd => rfl); (case' ho => rfl); (case' hs => rfl); (case' hx => rfl); (case' hown => exact (hoA)); (case' hy => exact (fun j u hu => by rcases j with _ | j <;> simp [ptE, ptCells] at hu; subst hu; first | (go_simp; done) | exact newCell _ _ _ _ _)); (case' hl => exact (by omega)); (case' hbase => exact (by first | omega | (simp; try omega)))); intro v' w4 ho4 hg4 hat4)
       refine hK.out _ _ ?_ (fun hHeld => ?_)
       · (exact (World.cell?_of_block (a := ⟨w.heap.size + 1, 0, none⟩) (hg4.block (w.heap.size + 1) hPA.box.lt (fun e => hPA.apV e.symm))).trans cA)
       clear hK K
       try simp only [Act.put, List.setIfInBounds_toArray, List.set_cons_zero, List.set_cons_succ])
      refine HT.tail (by kernel_rfl) ?_
      simp only [List.drop_succ_cons, List.drop_zero]
      have hg5 : (w1.alloc (.cells #[.pointer (some ⟨q1, 0, none⟩)] 76)).grownBy w4 V.ownBlock := hg4
      have hF : ∀ x ∈ F1, x ≠ w.heap.size + 1 ∧ V.ownBlock ≠ some x ∧ (Value.slice (some ⟨w.heap.size, 0, none⟩) n n).ownBlock ≠ some x ∧ ∀ i, i < k → x ∉ f i := fun x hx => by
        have h1 := hq x hx
        refine ⟨by omega, fun e => ?_, fun e => ?_, fun i hi hxi => ?_⟩
        · have := (hP.own.within e).2
          omega
        · have e' : w.heap.size = x := Option.some.inj e
          omega
        · have := hP.old i hi x hxi
          omega
      have hgr := hPA.grow hx.out sA hF ho4 hg5 hat4
      obtain ⟨A9, m9, c9, rfl⟩ : ∃ A m c, v' = .slice A m c := by obtain ⟨A, c, e⟩ := Owns.form ho4; exact ⟨A, _, c, e⟩
      have f4 := (hPA.box.grown hg5 hPA.apV).frozen 0
      obtain ⟨g0, _, _, _, _⟩ := (hPA.box.grown hg5 hPA.apV).cells
      have hlo2 : ∀ x ∈ rBlocks (w.heap.size + 1) (.slice A9 m9 c9) (.slice (some ⟨w.heap.size, 0, none⟩) n n) (setF f k F1) (k + 1), w.heap.size ≤ x := fun x hx => by
        rcases mem_rBlocks.1 hx with rfl | e | e | ⟨i, hi, hxi⟩
        · omega
        · rcases hat4 with e' | e'
          · exact hlo x (mem_rBlocks.2 (.inr (.inl (e'.symm.trans e))))
          · have := Option.some.inj (e'.symm.trans e)
            have := bA.size
            omega
        · have e' : w.heap.size = x := Option.some.inj e
          omega
        · unfold setF at hxi
          split at hxi
          · have := hq x hxi
            omega
          · exact hlo x (mem_rBlocks.2 (.inr (.inr (.inr ⟨i, by omega, hxi⟩))))
      have hbut : Below w.heap.size w (w4.setCell ⟨w.heap.size + 1, 0, none⟩ (.slice A9 m9 c9)) := by
        have e1 : Below w.heap.size w (w1.alloc (.cells #[.pointer (some ⟨q1, 0, none⟩)] 76)) := hbr.trans (bA.mono (by omega))
        have e2 := (But.of_grown (F := V.ownBlock.toList) hg5 (by simp)).below (B := w.heap.size) e1.size (fun x hx => hlo x (mem_rBlocks.2 (.inr (.inl (by simpa using hx)))))
        exact (e1.trans e2).setCell (p := ⟨w.heap.size + 1, 0, none⟩) (Nat.le_succ _) _
      replace hgr := Lib.hid hgr
      replace hlo2 := Lib.hid hlo2
      replace hbut := Lib.hid hbut
      clear hHeld cA hoA ho4 hg4 hg5 hat4 hPA sA bA hF c0 c1 c2 c3 c4 hP hlo
      go_wp2_with fail
      go_roundw
      case rel => exact ⟨k + 1, _, _, _, by omega, by go_num, hgr.out, hlo2.out, hbut.out⟩
      case measure => simp [intOf]; omega
    · obtain rfl : k = n := by omega
      have hfin : Hid (RWIn wp (w.heap.size + 1) V (.slice (some ⟨w.heap.size, 0, none⟩) k k) l f (Wld.new k)) := RPart.done (by rw [wnew_len]; exact hP) (by rw [wnew_len]; exact h12) (by simp [Wld.new]) (by simp [Wld.new]) (by simp [Wld.new])
      replace hP := Lib.hid hP
      replace hlo := Lib.hid hlo
      go_wp2_with fail
      go_ret2
      exact ⟨_, _, rfl, ⟨V, _, l, f, rfl, hfin.out⟩, by rw [wnew_len]; exact hlo.out, hbr⟩
end Go.Proofs.YtfkonpmnclknaaaGreat
