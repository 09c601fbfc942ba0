/-
  append of one snapshot onto a slice of the call's own.
-/
import Derived.Test.YtbfephekkfieaaaMem
namespace Go.Proofs.Ytbfephekkfieaaa
open Go.RowKit

theorem Snap.info : (Try.prog.info? 33).map (fun i => (i.zero, i.size, i.bytes)) = some (some (.agg #[.int .i64 0, .int .i64 0, .string ⟨#[]⟩]), 3, 32) := by kernel_rfl
theorem Snap.len (s : Snap) : s.cells.length = 3 := rfl
abbrev SnapsOwn := Owns 3 Snap.cells 33

theorem cell_new (w : World) (cs : Array Value) (T : TypeId) (fz : Nat × Nat) (j : Nat) : (w.alloc (.cells cs T fz)).cell? ⟨w.heap.size, j, none⟩ = cs[j]? := cell_of_row _ _ j cs T fz (heap_alloc_new w _)
theorem info3 {P : Program} {e : TypeId} {z : Value} {a b : Nat} (h : (P.info? e).map (fun i => (i.zero, i.size, i.bytes)) = some (some z, a, b)) : ∃ i, P.info? e = some i ∧ i.zero = some z ∧ i.size = a ∧ i.bytes = b := by
  cases hi : P.info? e with
  | none => rw [hi] at h; simp at h
  | some i => rw [hi] at h; simp at h; exact ⟨i, rfl, h.1, h.2.1, h.2.2⟩

theorem step_append_snap {ops : Array Oper} {o : Oper} {a : Act} {w : World} {K : Act → World → Prop} {Q : Exit → Act → World → Prop} {E : Prop} (hgd : o.guard = none) (s x : Operand)
    (ho : o.op = .call { callee := .builtin .append, args := #[s, x], argTypes := #[25, 25] })
    (base : Nat) (v : Value) (l : List Snap) (hs : a.eval s = v) (g c : Nat) (y : Snap) (hx : a.eval x = .slice (some ⟨g, 0, none⟩) 1 c)
    (hown : SnapsOwn w base v l) (h0 : w.cell? ⟨g, 0, none⟩ = some (.int .i64 y.id)) (h1 : w.cell? ⟨g, 1, none⟩ = some (.int .i64 y.time)) (h2 : w.cell? ⟨g, 2, none⟩ = some (.string y.root))
    (hl : l.length ≤ 1000000000) (hbase : base ≤ w.heap.size)
    (h : ∀ v' w', SnapsOwn w' base v' (l ++ [y]) → w.grownBy w' v.ownBlock → (v'.ownBlock = v.ownBlock ∨ v'.ownBlock = some w.heap.size) → K (a.put o.dst v') w') :
    if Region.wanted o (yielded ops a.tmps) = true then Oper.wp Try.prog o a w K Q else E := by
  obtain ⟨i, hi, hz, hsz, hby⟩ := info3 Snap.info
  refine step_append_any w hgd s x _ ho base _ i _ 3 32 Try.underlying25 hi hz hsz hby rfl (by omega) v l.length _ hs hown (g + 1) _ 1 c y.cells hx ?_ ?_ (by simp only [maxLen]; omega) (by omega) hbase ?_
  · refine ⟨rfl, fun _ => ⟨_, rfl, by simp, fun j u hu => ?_⟩⟩
    rw [Addr.add_lit]
    match j, hu with
    | 0, hu => simp [Snap.cells] at hu; subst hu; exact h0
    | 1, hu => simp [Snap.cells] at hu; subst hu; exact h1
    | 2, hu => simp [Snap.cells] at hu; subst hu; exact h2
    | j + 3, hu => simp [Snap.cells] at hu
  · intro u hu
    simp [Snap.cells] at hu
    rcases hu with rfl | rfl | rfl <;> rfl
  · intro v' w' ho' hg hat
    refine h v' w' ?_ hg hat
    unfold SnapsOwn Owns
    rw [List.length_append, List.flatMap_append]
    simpa using ho'

theorem wpList_append_snap {ops : Array Oper} {rest : List Oper} {o : Oper} {a : Act} {w : World} {Q : Exit → Act → World → Prop} (hgd : o.guard = none) (s x : Operand)
    (ho : o.op = .call { callee := .builtin .append, args := #[s, x], argTypes := #[25, 25] })
    (base : Nat) (v : Value) (l : List Snap) (hs : a.eval s = v) (g c : Nat) (y : Snap) (hx : a.eval x = .slice (some ⟨g, 0, none⟩) 1 c)
    (hown : SnapsOwn w base v l) (h0 : w.cell? ⟨g, 0, none⟩ = some (.int .i64 y.id)) (h1 : w.cell? ⟨g, 1, none⟩ = some (.int .i64 y.time)) (h2 : w.cell? ⟨g, 2, none⟩ = some (.string y.root))
    (hl : l.length ≤ 1000000000) (hbase : base ≤ w.heap.size)
    (h : ∀ v' w', SnapsOwn w' base v' (l ++ [y]) → w.grownBy w' v.ownBlock → (v'.ownBlock = v.ownBlock ∨ v'.ownBlock = some w.heap.size) → wpList Try.prog ops Q rest (a.put o.dst v') w') : wpList Try.prog ops Q (o :: rest) a w := by
  obtain ⟨i, hi, hz, hsz, hby⟩ := info3 Snap.info
  refine wpList_append_any w hgd s x _ ho base _ i _ 3 32 Try.underlying25 hi hz hsz hby rfl (by omega) v l.length _ hs hown (g + 1) _ 1 c y.cells hx ?_ ?_ (by simp only [maxLen]; omega) (by omega) hbase ?_
  · refine ⟨rfl, fun _ => ⟨_, rfl, by simp, fun j u hu => ?_⟩⟩
    rw [Addr.add_lit]
    match j, hu with
    | 0, hu => simp [Snap.cells] at hu; subst hu; exact h0
    | 1, hu => simp [Snap.cells] at hu; subst hu; exact h1
    | 2, hu => simp [Snap.cells] at hu; subst hu; exact h2
    | j + 3, hu => simp [Snap.cells] at hu
  · intro u hu
    simp [Snap.cells] at hu
    rcases hu with rfl | rfl | rfl <;> rfl
  · intro v' w' ho' hg hat
    refine h v' w' ?_ hg hat
    unfold SnapsOwn Owns
    rw [List.length_append, List.flatMap_append]
    simpa using ho'
end Go.Proofs.Ytbfephekkfieaaa
