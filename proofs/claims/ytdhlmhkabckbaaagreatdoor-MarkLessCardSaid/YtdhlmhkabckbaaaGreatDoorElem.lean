/-
  Slices of the call's own, for every element type: append of one element and of a row, at a list of operations and at a step of a drawn region; clear of one element; one element taken out.
-/
import Derived.Test.YtdhlmhkabckbaaaGreatDoorMem
import Derived.Lib.SliceRun
import Derived.Lib.EndianMore
namespace Go.Proofs.YtdhlmhkabckbaaaGreatDoor
open Go.RowKit

/-- An element type: its number, its slice's, the cells of an element. -/
structure Elem (α : Type) where
  T : TypeId
  S : TypeId
  k : Nat
  bytes : Nat
  enc : α → List Value
  z : Value
  und : Tryz.prog.underlying S = some (.slice T)
  info : (Tryz.prog.info? T).map (fun i => (i.zero, i.size, i.bytes)) = some (some z, k, bytes)
  zc : z.cells.size = k
  pos : 0 < k
  small : bytes ≤ 128
  len : ∀ x, (enc x).length = k
  one : ∀ x, ∀ u ∈ enc x, u.oneCell' = true
abbrev Elem.At {α : Type} (E : Elem α) := RowAt E.k E.enc
abbrev Elem.Own {α : Type} (E : Elem α) := Owns E.k E.enc E.T

theorem newCell (w : World) (cs : Array Value) (T : TypeId) (fz : Nat × Nat) (j : Nat) : (w.alloc (.cells cs T fz)).cell? ⟨w.heap.size, j, none⟩ = cs[j]? := cell_of_row _ _ j cs T fz (heap_alloc_new w _)
theorem infoOf {P : Program} {e : TypeId} {z : Value} {a b : Nat} (h : (P.info? e).map (fun i => (i.zero, i.size, i.bytes)) = some (some z, a, b)) : ∃ i, P.info? e = some i ∧ i.zero = some z ∧ i.size = a ∧ i.bytes = b := by
  cases hi : P.info? e with
  | none => rw [hi] at h; simp at h
  | some i => rw [hi] at h; simp at h; exact ⟨i, rfl, h.1, h.2.1, h.2.2⟩

/-- What a row reads as, flattened. -/
theorem RowAt.flat {α : Type} {k : Nat} {enc : α → List Value} {w : World} {B n : Nat} {A : Option Addr} {l : List α} (hk : ∀ x, (enc x).length = k) (hk0 : 0 < k) (h : RowAt k enc w B A n l) : Reads w B k A n (l.flatMap enc) := by
  refine ⟨by rw [flat_len hk, h.1], fun hn => ?_⟩
  obtain ⟨b, off, e, hb, hc⟩ := h.2.2 hn
  refine ⟨_, e, hb, fun j u hu => ?_⟩
  rw [Addr.add_lit]
  have hj : j < l.length * k := by rw [← flat_len hk]; exact (List.getElem?_eq_some_iff.1 hu).1
  have hi : j / k < l.length := by rw [Nat.div_lt_iff_lt_mul hk0]; exact hj
  have hx := List.getElem?_eq_getElem hi
  have hm : j % k < (enc l[j / k]).length := by rw [hk]; exact Nat.mod_lt _ hk0
  have hv := List.getElem?_eq_getElem hm
  have h1 := flat_at hk l _ _ hx _ _ hv
  have e1 : j / k * k + j % k = j := by rw [Nat.mul_comm]; exact Nat.div_add_mod j k
  rw [e1, hu] at h1
  injection h1 with h1
  have h2 := hc _ _ hx _ _ hv
  rw [Nat.add_assoc, e1, ← h1] at h2
  exact h2

section
variable {α : Type} (E : Elem α) {ops : Array Oper} {rest : List Oper} {o : Oper} {a : Act} {w : World} {K : Act → World → Prop} {Q : Exit → Act → World → Prop} {G : Prop}

theorem Elem.oneRow (l : List α) : ∀ u ∈ l.flatMap E.enc, u.oneCell' = true := by
  intro u hu
  obtain ⟨x, _, hx⟩ := List.mem_flatMap.1 hu
  exact E.one x u hx

theorem Elem.wpList_one (hgd : o.guard = none) (s x : Operand)
    (ho : o.op = .call { callee := .builtin .append, args := #[s, x], argTypes := #[E.S, E.S] })
    (base : Nat) (v : Value) (l : List α) (hs : a.eval s = v) (g c : Nat) (y : α) (hx : a.eval x = .slice (some ⟨g, 0, none⟩) 1 c)
    (hown : E.Own w base v l) (hy : ∀ j u, (E.enc y)[j]? = some u → w.cell? ⟨g, j, none⟩ = some u)
    (hl : l.length ≤ 1000000000) (hbase : base ≤ w.heap.size)
    (h : ∀ v' w', E.Own w' base v' (l ++ [y]) → w.grownBy w' v.ownBlock → (v'.ownBlock = v.ownBlock ∨ v'.ownBlock = some w.heap.size) → wpList Tryz.prog ops Q rest (a.put o.dst v') w') : wpList Tryz.prog ops Q (o :: rest) a w := by
  obtain ⟨i, hi, hz, hsz, hby⟩ := infoOf E.info
  refine wpList_append_any w hgd s x _ ho base _ i _ E.k E.bytes E.und hi hz hsz hby E.zc E.pos v l.length _ hs hown (g + 1) _ 1 c (E.enc y) hx ?_ (E.one y) (by simp only [maxLen]; omega) (Nat.le_trans (Nat.mul_le_mul_left _ E.small) (by omega)) hbase ?_
  · refine ⟨by rw [E.len, Nat.one_mul], fun _ => ⟨_, rfl, by simp, fun j u hu => ?_⟩⟩
    rw [Addr.add_lit, Nat.zero_add]
    exact hy j u hu
  · intro v' w' ho' hg hat
    refine h v' w' ?_ hg hat
    unfold Elem.Own Owns
    rw [List.length_append, List.flatMap_append]
    simpa using ho'

theorem Elem.step_one (hgd : o.guard = none) (s x : Operand)
    (ho : o.op = .call { callee := .builtin .append, args := #[s, x], argTypes := #[E.S, E.S] })
    (base : Nat) (v : Value) (l : List α) (hs : a.eval s = v) (g c : Nat) (y : α) (hx : a.eval x = .slice (some ⟨g, 0, none⟩) 1 c)
    (hown : E.Own w base v l) (hy : ∀ j u, (E.enc y)[j]? = some u → w.cell? ⟨g, j, none⟩ = some u)
    (hl : l.length ≤ 1000000000) (hbase : base ≤ w.heap.size)
    (h : ∀ v' w', E.Own w' base v' (l ++ [y]) → w.grownBy w' v.ownBlock → (v'.ownBlock = v.ownBlock ∨ v'.ownBlock = some w.heap.size) → K (a.put o.dst v') w') :
    if Region.wanted o (yielded ops a.tmps) = true then Oper.wp Tryz.prog o a w K Q else G := by
  obtain ⟨i, hi, hz, hsz, hby⟩ := infoOf E.info
  refine step_append_any w hgd s x _ ho base _ i _ E.k E.bytes E.und hi hz hsz hby E.zc E.pos v l.length _ hs hown (g + 1) _ 1 c (E.enc y) hx ?_ (E.one y) (by simp only [maxLen]; omega) (Nat.le_trans (Nat.mul_le_mul_left _ E.small) (by omega)) hbase ?_
  · refine ⟨by rw [E.len, Nat.one_mul], fun _ => ⟨_, rfl, by simp, fun j u hu => ?_⟩⟩
    rw [Addr.add_lit, Nat.zero_add]
    exact hy j u hu
  · intro v' w' ho' hg hat
    refine h v' w' ?_ hg hat
    unfold Elem.Own Owns
    rw [List.length_append, List.flatMap_append]
    simpa using ho'

theorem Elem.wpList_row (hgd : o.guard = none) (s x : Operand)
    (ho : o.op = .call { callee := .builtin .append, args := #[s, x], argTypes := #[E.S, E.S] })
    (base : Nat) (v : Value) (l : List α) (hs : a.eval s = v) (A : Option Addr) (n c : Nat) (l' : List α) (hx : a.eval x = .slice A n c)
    (hown : E.Own w base v l) (B : Nat) (hr : E.At w B A n l')
    (hl : l.length + n ≤ 1000000000) (hbase : base ≤ w.heap.size)
    (h : ∀ v' w', E.Own w' base v' (l ++ l') → w.grownBy w' v.ownBlock → (v'.ownBlock = v.ownBlock ∨ v'.ownBlock = some w.heap.size) → wpList Tryz.prog ops Q rest (a.put o.dst v') w') : wpList Tryz.prog ops Q (o :: rest) a w := by
  obtain ⟨i, hi, hz, hsz, hby⟩ := infoOf E.info
  refine wpList_append_any w hgd s x _ ho base _ i _ E.k E.bytes E.und hi hz hsz hby E.zc E.pos v l.length _ hs hown B A n c (l'.flatMap E.enc) hx (hr.flat E.len E.pos) (E.oneRow l') (by simp only [maxLen]; omega) (Nat.le_trans (Nat.mul_le_mul_left _ E.small) (by omega)) hbase ?_
  intro v' w' ho' hg hat
  refine h v' w' ?_ hg hat
  unfold Elem.Own Owns
  rw [List.length_append, List.flatMap_append, hr.1]
  exact ho'

theorem Elem.step_row (hgd : o.guard = none) (s x : Operand)
    (ho : o.op = .call { callee := .builtin .append, args := #[s, x], argTypes := #[E.S, E.S] })
    (base : Nat) (v : Value) (l : List α) (hs : a.eval s = v) (A : Option Addr) (n c : Nat) (l' : List α) (hx : a.eval x = .slice A n c)
    (hown : E.Own w base v l) (B : Nat) (hr : E.At w B A n l')
    (hl : l.length + n ≤ 1000000000) (hbase : base ≤ w.heap.size)
    (h : ∀ v' w', E.Own w' base v' (l ++ l') → w.grownBy w' v.ownBlock → (v'.ownBlock = v.ownBlock ∨ v'.ownBlock = some w.heap.size) → K (a.put o.dst v') w') :
    if Region.wanted o (yielded ops a.tmps) = true then Oper.wp Tryz.prog o a w K Q else G := by
  obtain ⟨i, hi, hz, hsz, hby⟩ := infoOf E.info
  refine step_append_any w hgd s x _ ho base _ i _ E.k E.bytes E.und hi hz hsz hby E.zc E.pos v l.length _ hs hown B A n c (l'.flatMap E.enc) hx (hr.flat E.len E.pos) (E.oneRow l') (by simp only [maxLen]; omega) (Nat.le_trans (Nat.mul_le_mul_left _ E.small) (by omega)) hbase ?_
  intro v' w' ho' hg hat
  refine h v' w' ?_ hg hat
  unfold Elem.Own Owns
  rw [List.length_append, List.flatMap_append, hr.1]
  exact ho'
end

section
variable {α : Type} {k : Nat} {enc : α → List Value} {T : TypeId} {w w' : World} {B : Nat} {v : Value} {l : List α}
theorem Owns.within (h : Owns k enc T w B v l) {i : Nat} (hi : v.ownBlock = some i) : B ≤ i ∧ i < w.heap.size := World.ownsRow.lt h i hi
theorem Below.grownOwn {w0 : World} {B0 : Nat} (hb : Below B0 w0 w) (h : Owns k enc T w B v l) (hB0 : B0 ≤ B) (hB : B0 ≤ w.heap.size) (hg : w.grownBy w' v.ownBlock) : Below B0 w0 w' :=
  hb.grown hg hB fun _ hi => Nat.le_trans hB0 (h.within hi).1
theorem Owns.emptyAt {k : Nat} {enc : α → List Value} {T : TypeId} (w : World) {base g : Nat} (hg : g = w.heap.size) (hb : base ≤ g) : Owns k enc T (w.alloc (.cells #[] T)) base (.slice (some ⟨g, 0, none⟩) 0 0) [] := by
  subst hg
  exact World.ownsRow_made w #[] 0 hb (by decide) (by simp)
theorem Owns.from (h : Owns k enc T w B v l) {B' : Nat} (hB : B' ≤ B) : Owns k enc T w B' v l :=
  ⟨h.1, h.2.imp id fun ⟨g, cap, cur, e, hg, r⟩ => ⟨g, cap, cur, e, Nat.le_trans hB hg, r⟩⟩
/-- Two owned rows whose blocks part. -/
theorem Owns.apart {β : Type} {k' : Nat} {enc' : β → List Value} {T' : TypeId} {v' : Value} {l' : List β} (h : Owns k' enc' T' w B v' l') (hg : w.grownBy w' v.ownBlock) (hne : v'.ownBlock = none ∨ v'.ownBlock ≠ v.ownBlock) : Owns k' enc' T' w' B v' l' := World.ownsRow.kept h hg hne
end
end Go.Proofs.YtdhlmhkabckbaaaGreatDoor
