/-
  many of chapter 7: a byte, so often.
-/
import Derived.Test.YtfkonpmnclknaaaNamA
import Derived.Laws.OwnMore
namespace Go.Proofs.Ytfkonpmnclknaaa
open Go.RowKit Go.Maps
attribute [local go_sem ↓] Go.wp_at_zero Go.wp_at_succ

def manyB (n : Nat) : ByteArray := str (List.replicate n 0)
theorem manyB_size (n : Nat) : (manyB n).size = n := by
  show (List.replicate n (0 : UInt8)).toArray.size = n
  simp
theorem make_zeros (n : Nat) (hn : n ≤ 1000000) (W : World) : (Instr.makeSlice 91 (.int .i64 (n : Int)) (.int .i64 (n : Int))).run Try.prog W = .ok (.slice (some ⟨W.heap.size, 0, none⟩) n n) (W.alloc (.cells ((List.replicate n (0 : UInt8)).map fun b => Value.int .u8 b.toNat).toArray 5)) := by
  obtain ⟨i, hi, hz, hsz, hby⟩ := infoOf (P := Try.prog) (e := 5) (z := .int .u8 0) (a := 1) (b := 1) (by kernel_rfl)
  have hbb : (i.bytes : Int) * (n : Int) ≤ 281474976710656 := by rw [hby]; omega
  have h := Go.run_make (P := Try.prog) W 91 5 i (.int .u8 0) Try.underlying91 hi hz .i64 .i64 (n : Int) (n : Int) (by omega) (Int.le_refl _) hbb (by omega)
  rw [hsz] at h
  have hc : madeCells (Value.int .u8 0).cells (n * 1) = ((List.replicate n (0 : UInt8)).map fun b => Value.int .u8 b.toNat).toArray := by
    apply Array.ext'
    rw [show (Value.int .u8 0).cells = #[Value.int .u8 0] from rfl, toList_madeCells_one, Nat.mul_one]
    simp
  simp only [Int.toNat_natCast] at h
  rw [hc] at h
  exact h
set_option maxHeartbeats 1000000 in
theorem law07_many (n : Nat) (hn : n ≤ 1000000) (w : World) : Calls Try.prog 17 #[.int .i64 n] w fun e w' => e = .returned (.string (manyB n)) ∧ Below w.heap.size w w' := by
  have hmk := make_zeros n hn w
  have hbt := bytesAt_new w 5 (List.replicate n (0 : UInt8)) (by simp; omega)
  have hb : Below w.heap.size w (w.alloc (.cells ((List.replicate n (0 : UInt8)).map fun b => Value.int .u8 b.toNat).toArray 5)) := (Below.refl _ w).alloc (Nat.le_refl _) _
  rw [List.length_replicate] at hbt
  have hcv := run_bytes_str (c := n) hbt
  generalize (w.alloc (.cells ((List.replicate n (0 : UInt8)).map fun b => Value.int .u8 b.toNat).toArray 5)) = w1 at hmk hcv hb
  replace hcv : (convert 91 9 (.slice (some ⟨w.heap.size, 0, none⟩) n n)).run Try.prog w1 = .ok (.string (manyB n)) w1 := hcv
  clear hbt
  go_enter Try.func17, Try.ntmps17
  go_wp2_with fail
  go_ret
  exact ⟨rfl, hb⟩
theorem Stos.many {B N : Nat} {w wr : World} {l : List (Nat × Sto)} {G : List (Nat × Obj)} (n : Nat) (hn : n ≤ 1000000) (h : Stos B w wr N l G) (hB : B ≤ w.heap.size) : Calls Try.prog 17 #[.int .i64 n] wr fun e w' => e = .returned (.string (manyB n)) ∧ Stos B w w' N l G := by
  refine (law07_many n hn wr).mono ?_
  rintro e w' ⟨rfl, hb⟩
  exact ⟨rfl, h.below hB hb⟩

/-- A block that holds a list reads as it. -/
theorem rowHeap {α : Type} {k : Nat} {enc : α → List Value} (hk : ∀ x, (enc x).length = k) {w : World} {q : Nat} {T : TypeId} {l : List α} (h : w.heap[q]? = some (.cells (l.flatMap enc).toArray T)) (hl : l.length ≤ 9223372036854775807) :
    RowAt k enc w (q + 1) (some ⟨q, 0, none⟩) l.length l := by
  refine ⟨rfl, hl, fun _ => ⟨_, _, rfl, by omega, fun i x hx j v hv => ?_⟩⟩
  rw [cell_of_row _ _ _ _ T (0, 0) h]
  have := flat_at hk l i x hx j v hv
  simpa [Nat.add_assoc] using this

/-- A store with one object, put into a new one. -/
theorem put_many {a d : ByteArray} (h0 : a.size ≠ 0) (h1 : a.size ≤ 80) (h2 : d.size ≤ 65536) : Sto.new.put (a, d) = (⟨[], [⟨a, d, false⟩], [(a, d)], false, -1, -1⟩, 0) := by
  have hb : badO (a, d) = false := by unfold badO; simp only [Bool.or_eq_false_iff, decide_eq_false_iff_not]; omega
  unfold Sto.put
  rw [hb]
  rfl
theorem put_long {s : Sto} {a d : ByteArray} (h : 80 < a.size ∨ 65536 < d.size) : s.put (a, d) = (s, 1) := by
  have hb : badO (a, d) = true := by unfold badO; simp only [Bool.or_eq_true, decide_eq_true_eq]; omega
  unfold Sto.put
  rw [hb]
  rfl
end Go.Proofs.Ytfkonpmnclknaaa
