/-
  walk.read of a root and no chunks at all: it is refused.
-/
import Derived.Test.YtmclniekloljcaaGreatDoorWkA
import Derived.Test.YtmclniekloljcaaGreatDoorWkB
import Derived.Test.YtmclniekloljcaaGreatDoorWkM
import Derived.Test.YtmclniekloljcaaGreatDoorKrip
namespace Go.Proofs.YtmclniekloljcaaGreatDoor
open Go.RowKit Go.Shelf
attribute [local go_sem] Oper.semAt_some

theorem back_make (F : Fence) (n : Nat) (hf : F.fn 36) (hro : F.round = none) (A : Option Addr) (m c : Nat) (w : World) :
    CallsIn F n Tryz.prog 36 #[.slice A m c] w fun e w' => e = .returned (.func (.func 57) #[] #[.pointer (some ⟨w.heap.size, 0, none⟩)]) ∧ w' = w.alloc (.cells #[.slice A m c] 22) := by
  refine callsIn_of_wp Tryz.func36 rfl hf ?_ hro
  simp only [Tryz.ntmps36, List.size_toArray, List.length_cons, List.length_nil, Nat.reduceAdd, Nat.reduceSub, Array.replicate_succ, Array.replicate_zero, List.push_toArray, List.append_toArray, List.nil_append, List.cons_append]
  gi_wp2
  go_ret
  exact ⟨rfl, rfl⟩

theorem hkeep {w : World} {b : Nat} {x : Obj} (o : Obj) (h : w.heap[b]? = some x) : (w.alloc o).heap[b]? = some x := (Below.heap_alloc _ _ _ (Array.getElem?_eq_some_iff.1 h).1).trans h
theorem hnew {w : World} {b : Nat} (o : Obj) (h : w.heap.size = b) : (w.alloc o).heap[b]? = some o := by subst h; exact heap_alloc_new w o
theorem hsize {w : World} {b : Nat} (o : Obj) (h : w.heap.size = b) : (w.alloc o).heap.size = b + 1 := by simp [h]
theorem hcell {w : World} {b : Nat} {cs : Array Value} {T : TypeId} (h : w.heap[b]? = some (.cells cs T)) {o : Nat} {v : Value} (hv : cs[o]? = some v) : w.cell? ⟨b, o, none⟩ = some v := (cell_of_row w b o _ _ _ h).trans hv
theorem hfree {w : World} {b : Nat} {cs : Array Value} {T : TypeId} (h : w.heap[b]? = some (.cells cs T)) (o : Nat) : w.frozen? ⟨b, o, none⟩ = false := by unfold World.frozen?; simp [h]

set_option maxRecDepth 100000 in
set_option maxHeartbeats 2000000 in
theorem walk_read_nil (d : ByteArray) (hd : d.size = 32) (w : World) :
    Calls Tryz.prog 26 #[.string d, .slice none 0 0, .bool false] w fun e w' => ∃ p, e = .returned (.tuple #[.pointer p, .int .i64 5]) ∧ Below w.heap.size w w' := by
  have hmm := @run_makeMap Tryz.prog
  have hmf : ∀ (fn : Fn) (first cap : Array Value) (w : World), (Instr.makeFunc fn first cap).run Tryz.prog w = .ok (.func fn first cap) w := fun _ _ _ _ => rfl
  refine (callsIn_wide (n := 3)).1 ?_
  refine callsIn_of_wp_marks Tryz.func26 rfl trivial ?_ rfl
  simp only [Tryz.ntmps26, List.size_toArray, List.length_cons, List.length_nil, Nat.reduceAdd, Nat.reduceSub, Array.replicate_succ, Array.replicate_zero, List.push_toArray, List.append_toArray, List.nil_append, List.cons_append]
  gi_wp2_with (refine ⟨trivial, ?_⟩; gi_at_call 36; refine (back_make Fence.wide _ trivial rfl none 0 0 _).mono ?_; rintro e w' ⟨rfl, rfl⟩)
  have hfacts : ∀ W6 : World, W6 = ((((((w.alloc (.cells #[.string d] 9)).alloc (.map #[] 0)).alloc (.map #[] 0)).alloc (.cells #[.map (some (w.heap.size + 1)), .bool false, .int .i64 256, .map (some (w.heap.size + 1 + 1)), .slice none 0 0] 68)).alloc (.cells #[.pointer (some ⟨w.heap.size + 1 + 1 + 1, 0, none⟩)] 62)).alloc (.cells #[.slice none 0 0] 22)) →
      W6.heap.size = w.heap.size + 1 + 1 + 1 + 1 + 1 + 1 ∧ Below w.heap.size w W6 ∧ W6.heap[w.heap.size]? = some (.cells #[.string d] 9) ∧ W6.heap[w.heap.size + 1]? = some (.map #[] 0) ∧
      W6.heap[w.heap.size + 1 + 1 + 1]? = some (.cells #[.map (some (w.heap.size + 1)), .bool false, .int .i64 256, .map (some (w.heap.size + 1 + 1)), .slice none 0 0] 68) ∧
      W6.heap[w.heap.size + 1 + 1 + 1 + 1]? = some (.cells #[.pointer (some ⟨w.heap.size + 1 + 1 + 1, 0, none⟩)] 62) ∧ W6.heap[w.heap.size + 1 + 1 + 1 + 1 + 1]? = some (.cells #[.slice none 0 0] 22) := by
    rintro W6 rfl
    refine ⟨hsize _ (hsize _ (hsize _ (hsize _ (hsize _ (hsize _ rfl))))), ((((((Below.refl _ w).alloc ?_ _).alloc ?_ _).alloc ?_ _).alloc ?_ _).alloc ?_ _).alloc ?_ _, hkeep _ (hkeep _ (hkeep _ (hkeep _ (hkeep _ (hnew _ rfl))))),
      hkeep _ (hkeep _ (hkeep _ (hkeep _ (hnew _ (hsize _ rfl))))), hkeep _ (hkeep _ (hnew _ (hsize _ (hsize _ (hsize _ rfl))))), hkeep _ (hnew _ (hsize _ (hsize _ (hsize _ (hsize _ rfl))))), hnew _ (hsize _ (hsize _ (hsize _ (hsize _ (hsize _ rfl)))))⟩ <;> (simp; try omega)
  generalize hW6 : ((((((w.alloc (.cells #[.string d] 9)).alloc (.map #[] 0)).alloc (.map #[] 0)).alloc (.cells #[.map (some (w.heap.size + 1)), .bool false, .int .i64 256, .map (some (w.heap.size + 1 + 1)), .slice none 0 0] 68)).alloc (.cells #[.pointer (some ⟨w.heap.size + 1 + 1 + 1, 0, none⟩)] 62)).alloc (.cells #[.slice none 0 0] 22)) = W6
  obtain ⟨hs6, hb6, q0, q1, q3, q4, q5⟩ := hfacts W6 hW6.symm
  clear hfacts hW6
  refine wpIn_rangeFunc_ownG rfl (by omega) (gf := 57) (lb := #[.pointer (some ⟨w.heap.size + 1 + 1 + 1 + 1 + 1, 0, none⟩)]) rfl trivial (enters_of Tryz.func57 (by kernel_rfl) rfl)
    (back_stops Fence.wide _ trivial rfl (by omega) (w.heap.size + 1 + 1 + 1 + 1 + 1) 0 0 none [] W6 (by omega) (hcell q5 rfl) RowAt.none_) belowK_t (belowK_b (Nat.le_refl _)) (Below.refl _ _) (fun _ => rfl)
    (fun _ W => Below W6.heap.size W6 W) (fun _ _ _ => False) (ownFrom_below (Nat.le_refl _) (Nat.le_refl _)) (fun _ _ _ _ _ hs _ _ => hs) (Below.refl _ _)
    (fun x => { tmps := #[.string d, .slice none 0 0, .bool false, .pointer (some ⟨w.heap.size, 0, none⟩), undef, undef, .pointer none, .int .i64 0, .pointer (some ⟨w.heap.size + 1 + 1 + 1 + 1, 0, none⟩), undef, .string x.2.1, .string d, .int .i64 32, .bool false, .map (some (w.heap.size + 1)), .bool false, .map (some (w.heap.size + 1 + 1)), .agg #[.map (some (w.heap.size + 1)), .bool false, .int .i64 256, .map (some (w.heap.size + 1 + 1)), .slice none 0 0], .pointer (some ⟨w.heap.size + 1 + 1 + 1, 0, none⟩), .slice none 0 0, .func (.func 57) #[] #[.pointer (some ⟨w.heap.size + 1 + 1 + 1 + 1 + 1, 0, none⟩)], .int .i64 (x.1 : Int), .string x.2.1, undef, undef, undef, undef, undef, undef, undef, undef, undef, undef, undef], defers := [] }) ?assign ?body ?done ?stop
  case assign =>
    rintro l ⟨i, s⟩ W K hK
    unfold encT
    dsimp only at hK ⊢
    gi_wp2
    exact hK
  case body =>
    intro l pre x W _ hlt
    exact absurd hlt (Nat.not_lt_zero _)
  case done =>
    rintro D xs wl hD rfl hB hK
    have hbW : Below w.heap.size w wl := hb6.trans (hB.mono hb6.size)
    have q4W := (hB.block _ (by omega)).trans q4
    have c4 : wl.cell? ⟨w.heap.size + 1 + 1 + 1 + 1, 0, none⟩ = some (.pointer (some ⟨w.heap.size + 1 + 1 + 1, 0, none⟩)) := hcell q4W (o := 0) rfl
    have l4 : w.heap.size + 1 + 1 + 1 + 1 < wl.heap.size := (Array.getElem?_eq_some_iff.1 q4W).1
    have hc : ∀ wl', Below wl.heap.size wl wl' → Calls Tryz.prog 39 #[.pointer (some ⟨w.heap.size + 1 + 1 + 1 + 1, 0, none⟩), .pointer (some ⟨w.heap.size, 0, none⟩)] wl' fun e wl'' => e = thrown 5 ∧ Below wl'.heap.size wl' wl'' := fun wl' hW' => by
      have hk : ∀ {b : Nat} {x : Obj}, W6.heap[b]? = some x → wl'.heap[b]? = some x := fun {b x} h => by
        have h1 := (hB.block b (Array.getElem?_eq_some_iff.1 h).1).trans h
        exact (hW'.block b (Array.getElem?_eq_some_iff.1 h1).1).trans h1
      exact walk_read1_none (w.heap.size + 1 + 1 + 1) (w.heap.size + 1) _ _ d wl' (hcell (hk q4) rfl) (hcell (hk q0) rfl) (hcell (hk q3) rfl) (kept_empty (hk q1) d (by rw [hd]; decide))
    have hlD := (Array.getElem?_eq_some_iff.1 hK).1
    gi_wp2
    refine wpIn_wide.2 ?_
    refine wp_region_noPanic ?_
    refine region_krip (fun W : World => Below wl.heap.size wl W) (by kernel_rfl) ((Below.refl _ _).drew) ?_
    (refine kF.takeL (i := 0) (v := ?_) rfl (by kernel_rfl) (fun _ _ _ h => h) (Or.inl ⟨by rfl, ?_⟩) ?_
     rotate_left
     · (intro wS hSw; (try dsimp only at hSw); have hcS := fun b o (h : b < wl.heap.size) => hSw.cell (p := ⟨b, o, none⟩) h; go_simp; (try with_reducible rfl))
     try simp only [Act.put, List.setIfInBounds_toArray, List.set_cons_zero, List.set_cons_succ])
    (refine kF.takeL (i := 1) (v := ?_) rfl (by kernel_rfl) (fun _ _ _ h => h) (Or.inl ⟨by rfl, ?_⟩) ?_
     rotate_left
     · (intro wS hSw; (try dsimp only at hSw); have hcS := fun b o (h : b < wl.heap.size) => hSw.cell (p := ⟨b, o, none⟩) h; go_simp; (try with_reducible rfl))
     try simp only [Act.put, List.setIfInBounds_toArray, List.set_cons_zero, List.set_cons_succ])
    (refine kF.lastL (j := 2) rfl (by kernel_rfl) (fun _ _ _ _ _ => Iff.rfl) (fun _ _ h1 h2 => below_S (Nat.le_refl _) h1 h2) (fun hSk K hK => ?_)
     (go_simp; refine (walk_caught_bad _ _ 5 _ (fun wl' hW' => hc wl' (hSk.trans (hW'.mono hSk.size)))).mono ?_; rintro e m1 ⟨rfl, hb1⟩; have hS1 := hSk.trans (hb1.mono hSk.size))
     refine hK.out _ _ (below_S (Nat.le_refl _) hSk hb1) ?_
     clear hK K
     try simp only [Act.put, List.setIfInBounds_toArray, List.set_cons_zero, List.set_cons_succ])
    (refine kF.takeL (i := 3) (v := ?_) rfl (by kernel_rfl) (fun _ _ _ h => h) (Or.inl ⟨by rfl, ?_⟩) ?_
     rotate_left
     · (intro wS hSw; (try dsimp only at hSw); have hcS := fun b o (h : b < wl.heap.size) => hSw.cell (p := ⟨b, o, none⟩) h; go_simp; (try with_reducible rfl))
     try simp only [Act.put, List.setIfInBounds_toArray, List.set_cons_zero, List.set_cons_succ])
    (refine kF.takeL (i := 4) (v := ?_) rfl (by kernel_rfl) (fun _ _ _ h => h) (Or.inl ⟨by rfl, ?_⟩) ?_
     rotate_left
     · (intro wS hSw; (try dsimp only at hSw); have hcS := fun b o (h : b < wl.heap.size) => hSw.cell (p := ⟨b, o, none⟩) h; go_simp; (try with_reducible rfl))
     try simp only [Act.put, List.setIfInBounds_toArray, List.set_cons_zero, List.set_cons_succ])
    refine kF.done (by kernel_rfl) ?_
    refine NoPanic.normal ?_
    have hKm := (hS1.block D hlD).trans hK
    have hbm := hbW.trans (hS1.mono hbW.size)
    gi_wp2
    refine ⟨by simp, .inl ⟨_, _, rfl, run_takeDeferred hKm, ?_⟩⟩
    exact ⟨_, results_tmp2 rfl _ _ _, _, rfl, hbm.trans (belowK_b (w := w) (Nat.le_refl _) m1 D _ _ (by omega) hKm rfl rfl)⟩
  case stop =>
    rintro D c pre W _ _ h _
    exact h.elim
end Go.Proofs.YtmclniekloljcaaGreatDoor
