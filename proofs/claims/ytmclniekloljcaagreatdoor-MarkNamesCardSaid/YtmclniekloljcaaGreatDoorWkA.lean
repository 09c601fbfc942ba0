/-
  Package walk: a root whose chunk is not at hand: what is thrown, and how it is caught.
-/
import Derived.Test.YtmclniekloljcaaGreatDoorBase
import Derived.Defers
import Derived.Recover
import Derived.Stop.IfaceNil
namespace Go.Proofs.YtmclniekloljcaaGreatDoor
open Go.RowKit

/-- What is thrown. -/
def faultV (n : Int) : Value := .iface 110 (.agg #[.int .i64 n])
/-- A panic that nobody has caught. -/
def thrown (n : Int) : Ending := .panicked [{ v := faultV n, recovered := false }]

set_option maxRecDepth 100000 in
theorem walk_find_none (b mb : Nat) (d : ByteArray) (w : World) (h0 : w.cell? ⟨b, 0, none⟩ = some (.map (some mb)))
    (hl : (Instr.lookup 65 (.map (some mb)) (.string d) true).run Tryz.prog w = .ok (.tuple #[.agg #[.string ⟨#[]⟩], .bool false]) w) :
    Calls Tryz.prog 63 #[.pointer (some ⟨b, 0, none⟩), .string d] w fun e w' => e = thrown 5 ∧ Below w.heap.size w w' := by
  go_enter Tryz.func63, Tryz.ntmps63
  go_wp2_with fail
  exact ⟨rfl, rfl, (Below.refl _ w).alloc (Nat.le_refl _) _⟩

set_option maxRecDepth 100000 in
theorem walk_dir_none (b mb : Nat) (d ahead : ByteArray) (w : World) (h0 : w.cell? ⟨b, 0, none⟩ = some (.map (some mb)))
    (hl : (Instr.lookup 65 (.map (some mb)) (.string d) true).run Tryz.prog w = .ok (.tuple #[.agg #[.string ⟨#[]⟩], .bool false]) w) :
    Calls Tryz.prog 40 #[.pointer (some ⟨b, 0, none⟩), .string d, .string ahead] w fun e w' => e = thrown 5 ∧ Below w.heap.size w w' := by
  have hc := walk_find_none b mb d w h0 hl
  go_enter Tryz.func40, Tryz.ntmps40
  go_wp2_with fail
  refine hc.mono ?_
  rintro e w1 ⟨rfl, hb⟩
  unfold thrown
  go_wp2_with fail
  exact ⟨rfl, rfl, hb⟩

set_option maxRecDepth 100000 in
theorem walk_read1_none (b mb b1 b2 : Nat) (d : ByteArray) (w : World) (h1 : w.cell? ⟨b1, 0, none⟩ = some (.pointer (some ⟨b, 0, none⟩))) (h2 : w.cell? ⟨b2, 0, none⟩ = some (.string d)) (h0 : w.cell? ⟨b, 0, none⟩ = some (.map (some mb)))
    (hl : (Instr.lookup 65 (.map (some mb)) (.string d) true).run Tryz.prog w = .ok (.tuple #[.agg #[.string ⟨#[]⟩], .bool false]) w) :
    Calls Tryz.prog 39 #[.pointer (some ⟨b1, 0, none⟩), .pointer (some ⟨b2, 0, none⟩)] w fun e w' => e = thrown 5 ∧ Below w.heap.size w w' := by
  have hc := walk_dir_none b mb d ⟨#[]⟩ w h0 hl
  go_enter Tryz.func39, Tryz.ntmps39
  go_wp2_with fail
  refine hc.mono ?_
  rintro e w1 ⟨rfl, hb⟩
  unfold thrown
  go_wp2_with fail
  exact ⟨rfl, rfl, hb⟩

set_option maxRecDepth 100000 in
/-- The deferred closure, where a fault was thrown. -/
theorem walk_catch (p : Nat) (n : Int) (older : List PanicEntry) (v0 : Value) (w : World) (hv : w.cell? ⟨p, 0, none⟩ = some v0) (hz : w.frozen? ⟨p, 0, none⟩ = false) (hp : p < w.heap.size) :
    CallsD Tryz.prog 61 #[.pointer (some ⟨p, 0, none⟩)] (.panicking ({ v := faultV n, recovered := false } :: older)) w fun e u' w' =>
      e = .returned (.tuple #[]) ∧ u' = .panicking ({ v := faultV n, recovered := true } :: older) ∧ w' = (w.setCell ⟨p, 0, none⟩ (.int .i64 n)).alloc (.cells #[.int .i64 n] 110) := by
  have hta : ∀ W : World, (Instr.typeAssert (.iface 110 (.agg #[.int .i64 n])) 20 110 true).run Tryz.prog W = .ok (.tuple #[.agg #[.int .i64 n], .bool true]) W := fun W => by
    simp [Instr.typeAssert, run_underlying Tryz.underlying110, go_sem, Result.andThen]
  have hnil : ∀ W : World, (binOp BinOp.eql 20 (.iface 110 (.agg #[.int .i64 n])) .nilIface).run Tryz.prog W = .ok (.bool false) W := fun W => run_eql_iface_nil W _ (by kernel_rfl) _ _
  refine callsD_of_wpS Tryz.func61 rfl fun c₀ cs hu => ?_
  apply wpS_seq
  apply wpS_region
  unfold faultV at hu ⊢
  simp [wpOpsS, go_sem, recoverD, hu, Tryz.ntmps61, Exit.thenS]
  refine wpS_of_wp ?_
  simp only [Array.replicate_succ, Array.replicate_zero, List.push_toArray, List.setIfInBounds_toArray, List.append_toArray, List.nil_append, List.cons_append, List.set_cons_succ, List.set_cons_zero]
  go_wp2_with fail
  simp [bodyPostS, results, Tryz.results61, Exit.thenS]

set_option maxRecDepth 100000 in
/-- What is thrown within is told. -/
theorem walk_caught_bad (b1 b2 : Nat) (n : Int) (w : World)
    (hc : ∀ W, Below w.heap.size w W → Calls Tryz.prog 39 #[.pointer (some ⟨b1, 0, none⟩), .pointer (some ⟨b2, 0, none⟩)] W fun e w' => e = thrown n ∧ Below W.heap.size W w') :
    Calls Tryz.prog 38 #[.func (.func 39) #[] #[.pointer (some ⟨b1, 0, none⟩), .pointer (some ⟨b2, 0, none⟩)]] w fun e w' => e = .returned (.int .i64 n) ∧ Below w.heap.size w w' := by
  have hmf : ∀ (fn : Fn) (first cap : Array Value) (w : World), (Instr.makeFunc fn first cap).run Tryz.prog w = .ok (.func fn first cap) w := fun _ _ _ _ => rfl
  have hb0 : Below w.heap.size w (w.alloc (.cells #[.int .i64 0] 23)) := (Below.refl _ w).alloc (Nat.le_refl _) _
  have hc0 := hc _ hb0
  go_enter_defers Tryz.func38, Tryz.ntmps38
  go_wp2_with fail
  refine hc0.mono ?_
  rintro e w1 ⟨rfl, hb1⟩
  unfold thrown
  go_wp2_with fail
  have hq := (hb1.block w.heap.size (by simp)).trans (heap_alloc_new w (.cells #[.int .i64 0] 23))
  have hlt := (Array.getElem?_eq_some_iff.1 hq).1
  have hcl : w1.cell? ⟨w.heap.size, 0, none⟩ = some (.int .i64 0) := (cell_of_row w1 w.heap.size 0 _ _ _ hq).trans rfl
  have hfz : w1.frozen? ⟨w.heap.size, 0, none⟩ = false := by unfold World.frozen?; simp [hq]
  have hfin : Below w.heap.size w ((w1.setCell ⟨w.heap.size, 0, none⟩ (.int .i64 n)).alloc (.cells #[.int .i64 n] 110)) :=
    ((hb0.trans (hb1.mono hb0.size)).setCell (p := ⟨w.heap.size, 0, none⟩) (Nat.le_refl _) _).alloc (by simp; omega) _
  refine leaves_cons (f := 61) (args := #[.pointer (some ⟨w.heap.size, 0, none⟩)]) (by simp) (by simp [go_sem]) ?_
  refine (walk_catch w.heap.size n [] (.int .i64 0) w1 hcl hfz hlt).mono ?_
  rintro e u' w'' ⟨rfl, rfl, rfl⟩
  have hce : ((w1.setCell ⟨w.heap.size, 0, none⟩ (.int .i64 n)).alloc (.cells #[.int .i64 n] 110)).cell? ⟨w.heap.size, 0, none⟩ = some (.int .i64 n) :=
    (World.cell?_alloc_lt _ _ _ (by simp; exact hlt)).trans (World.cell?_setCell_same' _ _ _ (by rw [hcl]; rfl))
  simp [Leaves, settle, results, Tryz.results38, go_sem, hce]
  trace_state
  exact hfin
end Go.Proofs.YtmclniekloljcaaGreatDoor
