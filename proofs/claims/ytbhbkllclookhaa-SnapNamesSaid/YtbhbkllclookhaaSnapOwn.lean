/-
  Slices of snapshots that the call itself makes: append of a row, the empty literal, the frame.
-/
import Derived.Test.YtbhbkllclookhaaSnapMem
namespace Go.Proofs.Ytbhbkllclookhaa
open Go.RowKit

theorem Owns.lt {α : Type} {k : Nat} {enc : α → List Value} {T : TypeId} {w : World} {B : Nat} {v : Value} {l : List α} (h : Owns k enc T w B v l) {i : Nat} (hi : v.ownBlock = some i) : B ≤ i ∧ i < w.heap.size := World.ownsRow.lt h i hi
theorem Owns.base {α : Type} {k : Nat} {enc : α → List Value} {T : TypeId} {w : World} {B B' : Nat} {v : Value} {l : List α} (h : Owns k enc T w B v l) (hB : B' ≤ B) : Owns k enc T w B' v l :=
  ⟨h.1, h.2.imp id fun ⟨g, cap, cur, e, hg, r⟩ => ⟨g, cap, cur, e, Nat.le_trans hB hg, r⟩⟩
theorem Below.own {α : Type} {k : Nat} {enc : α → List Value} {T : TypeId} {w0 w w' : World} {B : Nat} {v : Value} {l : List α} (hb : Below B w0 w) (h : Owns k enc T w B v l) (hB : B ≤ w.heap.size) (hg : w.grownBy w' v.ownBlock) : Below B w0 w' :=
  hb.grown hg hB fun _ hi => (h.lt hi).1

/-- What a row of snapshots reads as, flattened. -/
theorem RowAt.reads {α : Type} {k : Nat} {enc : α → List Value} {w : World} {B n : Nat} {A : Option Addr} {l : List α} (hk : ∀ x, (enc x).length = k) (hk0 : 0 < k) (h : RowAt k enc w B A n l) : Reads w B k A n (l.flatMap enc) := by
  refine ⟨by rw [flat_len hk, h.1], fun hn => ?_⟩
  obtain ⟨b, off, e, hb, hc⟩ := h.2.2 hn
  refine ⟨_, e, hb, fun j u hu => ?_⟩
  rw [Addr.add_lit]
  have hj : j < l.length * k := by rw [← flat_len hk]; exact (List.getElem?_eq_some_iff.1 hu).1
  have hi : j / k < l.length := by rw [Nat.div_lt_iff_lt_mul hk0]; exact hj
  have hx := List.getElem?_eq_getElem hi
  have hm : j % k < (enc l[j / k]).length := by rw [hk]; exact Nat.mod_lt _ hk0
  have hv := List.getElem?_eq_getElem hm
  have h1 := flat_at hk l _ _ hx _ _ hv
  have e1 : j / k * k + j % k = j := by rw [Nat.mul_comm]; exact Nat.div_add_mod j k
  rw [e1, hu] at h1
  injection h1 with h1
  have h2 := hc _ _ hx _ _ hv
  rw [Nat.add_assoc, e1, ← h1] at h2
  exact h2

theorem snap_cells_one (l : List Snap) : ∀ u ∈ l.flatMap Snap.cells, u.oneCell' = true := by
  intro u hu
  simp [List.mem_flatMap, Snap.cells] at hu
  obtain ⟨s, _, rfl | rfl | rfl⟩ := hu <;> rfl

theorem wpList_append_snaps {ops : Array Oper} {rest : List Oper} {o : Oper} {a : Act} {w : World} {Q : Exit → Act → World → Prop} (hgd : o.guard = none) (s x : Operand)
    (ho : o.op = .call { callee := .builtin .append, args := #[s, x], argTypes := #[22, 22] })
    (base : Nat) (v : Value) (l : List Snap) (hs : a.eval s = v) (A : Option Addr) (n c : Nat) (l' : List Snap) (hx : a.eval x = .slice A n c)
    (hown : SnapsOwn w base v l) (B : Nat) (hr : SnapsAt w B A n l')
    (hl : l.length + n ≤ 1000000000) (hbase : base ≤ w.heap.size)
    (h : ∀ v' w', SnapsOwn w' base v' (l ++ l') → w.grownBy w' v.ownBlock → (v'.ownBlock = v.ownBlock ∨ v'.ownBlock = some w.heap.size) → wpList Try.prog ops Q rest (a.put o.dst v') w') : wpList Try.prog ops Q (o :: rest) a w := by
  obtain ⟨i, hi, hz, hsz, hby⟩ := info3 Snap.info
  refine wpList_append_any w hgd s x _ ho base _ i _ 3 32 Try.underlying22 hi hz hsz hby rfl (by omega) v l.length _ hs hown B A n c (l'.flatMap Snap.cells) hx (hr.reads Snap.len (by omega)) (snap_cells_one l') (by simp only [maxLen]; omega) (by omega) hbase ?_
  intro v' w' ho' hg hat
  refine h v' w' ?_ hg hat
  unfold SnapsOwn Owns
  rw [List.length_append, List.flatMap_append, hr.1]
  exact ho'

theorem Owns.empty {α : Type} {k : Nat} {enc : α → List Value} {T : TypeId} (w : World) {base g : Nat} (hg : g = w.heap.size) (hb : base ≤ g) : Owns k enc T (w.alloc (.cells #[] T)) base (.slice (some ⟨g, 0, none⟩) 0 0) [] := by
  subst hg
  exact World.ownsRow_made w #[] 0 hb (by decide) (by simp)
end Go.Proofs.Ytbhbkllclookhaa
