/-
  A slice of bytes that reads as a list of bytes; its string.
-/
import Derived.Test.YtdhlmhkabckbaaaGreatDoorMem
namespace Go.Proofs.YtdhlmhkabckbaaaGreatDoor
open Go.RowKit

def byteCell (b : UInt8) : List Value := [.int .u8 b.toNat]
theorem byteCell_len (b : UInt8) : (byteCell b).length = 1 := rfl
abbrev BytesAt := RowAt 1 byteCell
def str (l : List UInt8) : ByteArray := ⟨l.toArray⟩

theorem foldl_push (l : List UInt8) : ∀ s : ByteArray, (l.map fun b => (b.toNat : Int)).foldl (fun r n => r.push (UInt8.ofNat n.toNat)) s = ⟨s.data ++ l.toArray⟩ := by
  induction l with
  | nil => intro s; simp
  | cons b l ih =>
    intro s
    rw [List.map_cons, List.foldl_cons, ih]
    simp [ByteArray.push]

theorem run_bytes_str {w : World} {B n c : Nat} {A : Option Addr} {l : List UInt8} (h : BytesAt w B A n l) :
    (convert 46 9 (.slice A n c)).run Tryz.prog w = .ok (.string (str l)) w := by
  rw [run_convert_bytes_string w _ _ 5 A n c Tryz.underlying46 Tryz.underlying5 Tryz.underlying9]
  obtain ⟨hl, _, hc⟩ := h
  cases A with
  | none =>
    have h0 : n = 0 := by
      rcases Nat.eq_zero_or_pos n with h0 | h0
      · exact h0
      · obtain ⟨_, _, e, _⟩ := hc h0
        cases e
    have : l = [] := List.eq_nil_of_length_eq_zero (by omega)
    subst this
    rfl
  | some a =>
    have hload : (loadCells a n).run Tryz.prog w = .ok ((l.map fun b => (b.toNat : Int)).map (Value.int .u8)).toArray w := by
      have := run_loadCells_list (P := Tryz.prog) (w := w) a (l.map fun b => Value.int .u8 b.toNat) (fun j v hv => by
        have hj : j < l.length := by have := (List.getElem?_eq_some_iff.1 hv).1; simpa using this
        obtain ⟨b, off, e, _, hcell⟩ := hc (by omega)
        simp only [Option.some.injEq] at e
        subst e
        rw [Addr.add_lit]
        have := hcell j l[j] (List.getElem?_eq_getElem hj) 0 (.int .u8 l[j].toNat) rfl
        simp only [Nat.mul_one, Nat.add_zero] at this
        rw [this]
        simp [List.getElem?_map, List.getElem?_eq_getElem hj] at hv
        rw [hv])
      rw [List.length_map, hl] at this
      rw [this, List.map_map]
      rfl
    rw [run_bytesToString w a n c _ hload, foldl_push]
    simp [str, ByteArray.empty, ByteArray.emptyWithCapacity]
    rfl

/-- A new block of bytes. -/
theorem bytesAt_new (w : World) (T : TypeId) (l : List UInt8) (hl : l.length ≤ 9223372036854775807) : BytesAt (w.alloc (.cells (l.map fun b => Value.int .u8 b.toNat).toArray T)) (w.heap.size + 1) (some ⟨w.heap.size, 0, none⟩) l.length l := by
  refine ⟨rfl, hl, fun _ => ⟨_, _, rfl, by omega, fun i x hx j v hv => ?_⟩⟩
  rw [cell_of_row _ _ _ _ T (0, 0) (heap_alloc_new w _)]
  match j, hv with
  | 0, hv => simp [byteCell] at hv; subst hv; simp [List.getElem?_map, hx]
  | j + 1, hv => simp [byteCell] at hv

def zeros : List UInt8 := List.replicate 32 0
def zcells : Array Value := (zeros.map fun b => Value.int .u8 b.toNat).toArray
def zroot : ByteArray := str zeros
theorem make32 (w : World) : (Instr.makeSlice 46 (.int .i64 32) (.int .i64 32)).run Tryz.prog w = .ok (.slice (some ⟨w.heap.size, 0, none⟩) 32 32) (w.alloc (.cells zcells 5)) := by kernel_rfl
end Go.Proofs.YtdhlmhkabckbaaaGreatDoor
