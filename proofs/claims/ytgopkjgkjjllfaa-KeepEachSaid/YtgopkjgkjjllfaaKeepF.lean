/-
  The contracts of the examples: three, awake.
-/
import Derived.Test.YtgopkjgkjjllfaaKeepE
import Derived.Test.YtgopkjgkjjllfaaBytes
namespace Go.Proofs.Ytgopkjgkjjllfaa
open Go.RowKit

def zeros : List UInt8 := List.replicate 32 0
def zcells : Array Value := (zeros.map fun b => Value.int .u8 b.toNat).toArray
def zroot : ByteArray := str zeros
def threeL : List Snap := [⟨1, 5, zroot⟩, ⟨2, 9, zroot⟩, ⟨3, 7, zroot⟩]

theorem make32 (w : World) : (Instr.makeSlice 55 (.int .i64 32) (.int .i64 32)).run Try.prog w = .ok (.slice (some ⟨w.heap.size, 0, none⟩) 32 32) (w.alloc (.cells zcells 5)) := by kernel_rfl

set_option maxHeartbeats 400000 in
theorem three_any (w : World) : Calls Try.prog 20 #[] w fun e w' => ∃ A n c, e = .returned (.slice A n c) ∧ SnapsAt w' w'.heap.size A n threeL ∧ Below w.heap.size w w' := by
  have hmk := make32
  have hcv := run_bytes_str (c := 32) (bytesAt_new w 5 zeros (by decide))
  change (convert 55 9 (.slice (some ⟨w.heap.size, 0, none⟩) 32 32)).run Try.prog (w.alloc (.cells zcells 5)) = .ok (.string zroot) (w.alloc (.cells zcells 5)) at hcv
  go_enter Try.func20, Try.ntmps20
  go_wp2
  go_ret
  refine ⟨_, _, _, rfl, ⟨rfl, by omega, fun _ => ⟨_, _, rfl, (by first | omega | (simp; try omega)), fun i x hx j v hv => ?_⟩⟩, (by repeat (first | exact Below.refl _ _ | assumption | refine Below.drew ?_ | refine below_drewN ?_ _ | refine Below.alloc ?_ (by first | omega | (simp; try omega)) _ | refine Below.setCell ?_ (by first | omega | (simp; try omega)) _ | (refine Below.trans ?_ (Below.mono (by assumption) (by first | omega | (simp; try omega))))))⟩
  rcases i with _ | _ | _ | i <;> simp [threeL] at hx <;> subst hx <;> rcases j with _ | _ | _ | j <;> simp [Snap.cells] at hv <;> subst hv <;> go_simp

section
variable {A : Option Addr} {n c : Nat} {l : List Snap} {w : World} {r : Rule} {K G : List Snap} {z : Int}
theorem Two.rows {a b : Value} {x y : List Snap} {B : Nat} (h : Two w B a b x y) :
    ∃ A1 c1 A2 c2, a = .slice A1 x.length c1 ∧ b = .slice A2 y.length c2 ∧ SnapsAt w w.heap.size A1 x.length x ∧ SnapsAt w w.heap.size A2 y.length y := by
  obtain ⟨A1, c1, rfl⟩ := h.1.form
  obtain ⟨A2, c2, rfl⟩ := h.2.1.form
  exact ⟨A1, c1, A2, c2, rfl, rfl, h.1.row Snap.len, h.2.1.row Snap.len⟩
theorem keep_Choose' (h : SnapsAt w w.heap.size A n l) (h2 : r.last ≤ 9223372036854775807) (h3 : r.within ≤ 9223372036854775807) (hch : choose l r = (K, G, z)) :
    Calls Try.prog 14 #[.slice A n c, r.agg] w fun e w' => ∃ A1 c1 A2 c2, e = .returned (.tuple #[.slice A1 K.length c1, .slice A2 G.length c2, .int .i64 z]) ∧
      Two w' w.heap.size (.slice A1 K.length c1) (.slice A2 G.length c2) K G ∧ SnapsAt w' w'.heap.size A1 K.length K ∧ SnapsAt w' w'.heap.size A2 G.length G ∧ Below w.heap.size w w' := by
  refine (keep_Choose A n c l w h r h2 h3).mono ?_
  rw [hch]
  rintro e w' ⟨a, b, rfl, ht, hb⟩
  obtain ⟨A1, c1, A2, c2, rfl, rfl, h1, h2⟩ := ht.rows
  exact ⟨A1, c1, A2, c2, rfl, ht, h1, h2, hb⟩
theorem ref22_Choose' (h : SnapsAt w w.heap.size A n l) (hch : choose l r = (K, G, z)) :
    Calls Try.prog 15 #[.slice A n c, r.agg] w fun e w' => ∃ A1 c1 A2 c2, e = .returned (.tuple #[.slice A1 K.length c1, .slice A2 G.length c2, .int .i64 z]) ∧
      Two w' w.heap.size (.slice A1 K.length c1) (.slice A2 G.length c2) K G ∧ SnapsAt w' w'.heap.size A1 K.length K ∧ SnapsAt w' w'.heap.size A2 G.length G ∧ Below w.heap.size w w' := by
  refine (ref22_Choose A n c l w h r).mono ?_
  rw [hch]
  rintro e w' ⟨a, b, rfl, ht, hb⟩
  obtain ⟨A1, c1, A2, c2, rfl, rfl, h1, h2⟩ := ht.rows
  exact ⟨A1, c1, A2, c2, rfl, ht, h1, h2, hb⟩
end

theorem three_last : choose threeL ⟨0, 1, 0⟩ = ([⟨3, 7, zroot⟩], [⟨1, 5, zroot⟩, ⟨2, 9, zroot⟩], 0) := by decide +kernel
theorem three_within : choose threeL ⟨0, 0, 2⟩ = ([⟨2, 9, zroot⟩, ⟨3, 7, zroot⟩], [⟨1, 5, zroot⟩], 0) := by decide +kernel
theorem three_id : choose threeL ⟨1, 0, 0⟩ = ([⟨2, 9, zroot⟩, ⟨3, 7, zroot⟩], [⟨1, 5, zroot⟩], 0) := by decide +kernel

/-- The first of a row that is not empty. -/
theorem RowAt.first {w : World} {B n : Nat} {A : Option Addr} {s : Snap} {l : List Snap} (h : SnapsAt w B A n (s :: l)) : ∃ b off, A = some ⟨b, off, none⟩ ∧ b < B ∧ w.cell? ⟨b, off, none⟩ = some (.int .i64 s.id) ∧ w.cell? ⟨b, off + 1, none⟩ = some (.int .i64 s.time) := by
  obtain ⟨b, off, t, e, hb, hx, q0, q1, _⟩ := h.snap (i := 0) (by have := h.1; simp at this; omega)
  simp at hx
  subst hx
  simp at q0 q1
  exact ⟨b, off, e, hb, q0, q1⟩

set_option maxHeartbeats 1000000 in
theorem awake_any (w : World) : Calls Try.prog 13 #[] w fun e w' => e = .returned (.bool true) ∧ Below w.heap.size w w' := by
  go_enter Try.func13, Try.ntmps13
  go_wp2_with fail
  refine (three_any _).mono ?_
  rintro e w1 ⟨A, n, c, rfl, h3, hb1⟩
  go_wp2_with fail
  refine (keep_Choose' (r := ⟨0, 1, 0⟩) h3 (by decide) (by decide) three_last).mono ?_
  rintro e w2 ⟨A1, c1, A2, c2, rfl, _, r1, _, hb2⟩
  obtain ⟨g1, o1, rfl, hl1, q1, _⟩ := r1.first
  go_wp2_with fail
  refine (three_any _).mono ?_
  rintro e w3 ⟨A, n, c, rfl, h3', hb3⟩
  go_wp2_with fail
  refine (keep_Choose' (r := ⟨0, 0, 2⟩) h3' (by decide) (by decide) three_within).mono ?_
  rintro e w4 ⟨A3, c3, A4, c4, rfl, _, r3, _, hb4⟩
  obtain ⟨g3, o3, rfl, hl3, q3, _⟩ := r3.first
  go_wp2_with fail
  refine (three_any _).mono ?_
  rintro e w5 ⟨A, n, c, rfl, h3'', hb5⟩
  go_wp2_with fail
  refine (keep_Choose' (r := ⟨1, 0, 0⟩) h3'' (by decide) (by decide) three_id).mono ?_
  rintro e w6 ⟨A5, c5, A6, c6, rfl, _, _, r6, hb6⟩
  obtain ⟨g6, o6, rfl, hl6, q6, _⟩ := r6.first
  have p1 : w6.cell? ⟨g1, o1, none⟩ = some (.int .i64 3) := ((Below.trans (hb3.trans (hb4.mono hb3.size)) ((hb5.trans (hb6.mono hb5.size)).mono (by have := hb3.size; have := hb4.size; omega))).cell (p := ⟨g1, o1, none⟩) hl1).trans q1
  have p3 : w6.cell? ⟨g3, o3, none⟩ = some (.int .i64 2) := ((hb5.trans (hb6.mono hb5.size)).cell (p := ⟨g3, o3, none⟩) hl3).trans q3
  go_wp2
  go_ret
  have z1 := hb1.size; have z2 := hb2.size; have z3 := hb3.size; have z4 := hb4.size; have z5 := hb5.size
  exact ⟨rfl, (by repeat (first | exact Below.refl _ _ | assumption | refine Below.drew ?_ | refine below_drewN ?_ _ | refine Below.alloc ?_ (by first | omega | (simp; try omega)) _ | refine Below.setCell ?_ (by first | omega | (simp; try omega)) _ | (refine Below.trans ?_ (Below.mono (by assumption) (by first | omega | (simp; try omega))))))⟩
end Go.Proofs.Ytgopkjgkjjllfaa
