/-
  The reference's Strike, but for Bend.
-/
import Derived.Test.YtfkonpmnclknaaaGreatRefP
import Derived.Test.YtfkonpmnclknaaaGreatStoJ
import Derived.Test.YtfkonpmnclknaaaGreatHeld
import Derived.Laws.Concat
import Derived.Test.YtfkonpmnclknaaaGreatRefW
import Derived.Test.YtfkonpmnclknaaaGreatRefC
namespace Go.Proofs.YtfkonpmnclknaaaGreat
open Go.RowKit
attribute [local go_sem ↓] Go.wp_at_zero Go.wp_at_succ

set_option maxHeartbeats 4000000 in
set_option maxRecDepth 100000 in
theorem ref_strike_bad (b : Nat) (F : List Nat) (s : Sto) (f : Flt) (hb : f.bad = true) (w : World) (h : RefAt w b F s) :
    Calls Tryz.prog 56 #[.pointer (some ⟨b, 0, none⟩), f.agg] w fun e w' => e = .returned (.int .i64 1) ∧ RefTo b F s w w' := by
  have hsame := Lib.hid (RefTo.same h ((Below.refl _ w).alloc (Nat.le_refl _) f.box))
  clear h
  unfold Flt.box at hsame
  obtain ⟨kind, store, n, at_, c⟩ := f
  unfold Flt.agg
  dsimp only at hsame ⊢
  by_cases k1 : kind < 1
  · replace hb := Lib.hid hb
    go_enter Tryz.func56, Tryz.ntmps56
    go_wp2_with fail
    go_ret
    exact ⟨rfl, hsame.out⟩
  by_cases k2 : 7 < kind
  · replace hb := Lib.hid hb
    go_enter Tryz.func56, Tryz.ntmps56
    go_wp2_with fail
    go_ret
    exact ⟨rfl, hsame.out⟩
  by_cases k3 : n < 0
  · replace hb := Lib.hid hb
    go_enter Tryz.func56, Tryz.ntmps56
    go_wp2_with fail
    go_ret
    exact ⟨rfl, hsame.out⟩
  by_cases k4 : at_ < 0
  · replace hb := Lib.hid hb
    go_enter Tryz.func56, Tryz.ntmps56
    go_wp2_with fail
    go_ret
    exact ⟨rfl, hsame.out⟩
  by_cases k5 : c < 0
  · replace hb := Lib.hid hb
    go_enter Tryz.func56, Tryz.ntmps56
    go_wp2_with fail
    go_ret
    exact ⟨rfl, hsame.out⟩
  have k6 : 255 < c := by simp [Flt.bad, k1, k2, k3, k4, k5] at hb; omega
  replace hb := Lib.hid hb
  go_enter Tryz.func56, Tryz.ntmps56
  go_wp2_with fail
  go_ret
  exact ⟨rfl, hsame.out⟩

set_option maxHeartbeats 4000000 in
set_option maxRecDepth 100000 in
theorem ref_strike_down (b : Nat) (F : List Nat) (s : Sto) (store n at_ c : Int) (hb : (⟨4, store, n, at_, c⟩ : Flt).bad = false) (w : World) (h : RefAt w b F s) :
    Calls Tryz.prog 56 #[.pointer (some ⟨b, 0, none⟩), (⟨4, store, n, at_, c⟩ : Flt).agg] w fun e w' => e = .returned (.int .i64 0) ∧ RefTo b F ({ s with down := true } : Sto) w w' := by
  have hcs : ¬ n < 0 ∧ ¬ at_ < 0 ∧ ¬ c < 0 ∧ ¬ 255 < c := by simp [Flt.bad] at hb; omega
  obtain ⟨k3, k4, k5, k6⟩ := hcs
  obtain ⟨G, V, rfl, h⟩ := h
  have hA : Below w.heap.size w (w.alloc (.cells #[.int .u8 4, .int .i64 store, .int .i64 n, .int .i64 at_, .int .i64 c] 39)) := (Below.refl _ w).alloc (Nat.le_refl _) _
  have h1 := h.block fun i hi => hA.block i (h.lt i hi)
  have f1 := h1.box.frozen 2
  obtain ⟨c0, c1, c2, c3, c4⟩ := h1.box.cells
  have hto := (RefTo.set (h.set (s' := { s with down := true }) (h.box.set2 (.bool true)) rfl rfl)).trans fun F1 h1 => RefTo.same h1 ((Below.refl _ _).alloc (Nat.le_refl _) (.cells #[.int .u8 4, .int .i64 store, .int .i64 n, .int .i64 at_, .int .i64 c] 39))
  have hlb := h.box.lt
  replace hto := Lib.hid hto
  unfold Flt.agg
  dsimp only
  clear h h1 hb
  go_enter Tryz.func56, Tryz.ntmps56
  go_wp2_with fail
  go_ret
  exact ⟨rfl, hto.out⟩

set_option maxHeartbeats 4000000 in
set_option maxRecDepth 100000 in
theorem ref_strike_up (b : Nat) (F : List Nat) (s : Sto) (store n at_ c : Int) (hb : (⟨5, store, n, at_, c⟩ : Flt).bad = false) (w : World) (h : RefAt w b F s) :
    Calls Tryz.prog 56 #[.pointer (some ⟨b, 0, none⟩), (⟨5, store, n, at_, c⟩ : Flt).agg] w fun e w' => e = .returned (.int .i64 0) ∧ RefTo b F ({ s with down := false } : Sto) w w' := by
  have hcs : ¬ n < 0 ∧ ¬ at_ < 0 ∧ ¬ c < 0 ∧ ¬ 255 < c := by simp [Flt.bad] at hb; omega
  obtain ⟨k3, k4, k5, k6⟩ := hcs
  obtain ⟨G, V, rfl, h⟩ := h
  have hA : Below w.heap.size w (w.alloc (.cells #[.int .u8 5, .int .i64 store, .int .i64 n, .int .i64 at_, .int .i64 c] 39)) := (Below.refl _ w).alloc (Nat.le_refl _) _
  have h1 := h.block fun i hi => hA.block i (h.lt i hi)
  have f1 := h1.box.frozen 2
  obtain ⟨c0, c1, c2, c3, c4⟩ := h1.box.cells
  have hto := (RefTo.set (h.set (s' := { s with down := false }) (h.box.set2 (.bool false)) rfl rfl)).trans fun F1 h1 => RefTo.same h1 ((Below.refl _ _).alloc (Nat.le_refl _) (.cells #[.int .u8 5, .int .i64 store, .int .i64 n, .int .i64 at_, .int .i64 c] 39))
  have hlb := h.box.lt
  replace hto := Lib.hid hto
  unfold Flt.agg
  dsimp only
  clear h h1 hb
  go_enter Tryz.func56, Tryz.ntmps56
  go_wp2_with fail
  go_ret
  exact ⟨rfl, hto.out⟩

set_option maxHeartbeats 4000000 in
set_option maxRecDepth 100000 in
theorem ref_strike_refuse (b : Nat) (F : List Nat) (s : Sto) (store n at_ c : Int) (hb : (⟨6, store, n, at_, c⟩ : Flt).bad = false) (w : World) (h : RefAt w b F s) :
    Calls Tryz.prog 56 #[.pointer (some ⟨b, 0, none⟩), (⟨6, store, n, at_, c⟩ : Flt).agg] w fun e w' => e = .returned (.int .i64 0) ∧ RefTo b F ({ s with refuse := n } : Sto) w w' := by
  have hcs : ¬ n < 0 ∧ ¬ at_ < 0 ∧ ¬ c < 0 ∧ ¬ 255 < c := by simp [Flt.bad] at hb; omega
  obtain ⟨k3, k4, k5, k6⟩ := hcs
  obtain ⟨G, V, rfl, h⟩ := h
  have hA : Below w.heap.size w (w.alloc (.cells #[.int .u8 6, .int .i64 store, .int .i64 n, .int .i64 at_, .int .i64 c] 39)) := (Below.refl _ w).alloc (Nat.le_refl _) _
  have h1 := h.block fun i hi => hA.block i (h.lt i hi)
  have f1 := h1.box.frozen 3
  obtain ⟨c0, c1, c2, c3, c4⟩ := h1.box.cells
  have hto := (RefTo.set (h.set (s' := { s with refuse := n }) (h.box.set3 (.int .i64 n)) rfl rfl)).trans fun F1 h1 => RefTo.same h1 ((Below.refl _ _).alloc (Nat.le_refl _) (.cells #[.int .u8 6, .int .i64 store, .int .i64 n, .int .i64 at_, .int .i64 c] 39))
  have hlb := h.box.lt
  replace hto := Lib.hid hto
  unfold Flt.agg
  dsimp only
  clear h h1 hb
  go_enter Tryz.func56, Tryz.ntmps56
  go_wp2_with fail
  go_ret
  exact ⟨rfl, hto.out⟩

set_option maxHeartbeats 4000000 in
set_option maxRecDepth 100000 in
theorem ref_strike_room (b : Nat) (F : List Nat) (s : Sto) (store n at_ c : Int) (hb : (⟨7, store, n, at_, c⟩ : Flt).bad = false) (w : World) (h : RefAt w b F s) :
    Calls Tryz.prog 56 #[.pointer (some ⟨b, 0, none⟩), (⟨7, store, n, at_, c⟩ : Flt).agg] w fun e w' => e = .returned (.int .i64 0) ∧ RefTo b F ({ s with room := n } : Sto) w w' := by
  have hcs : ¬ n < 0 ∧ ¬ at_ < 0 ∧ ¬ c < 0 ∧ ¬ 255 < c := by simp [Flt.bad] at hb; omega
  obtain ⟨k3, k4, k5, k6⟩ := hcs
  obtain ⟨G, V, rfl, h⟩ := h
  have hA : Below w.heap.size w (w.alloc (.cells #[.int .u8 7, .int .i64 store, .int .i64 n, .int .i64 at_, .int .i64 c] 39)) := (Below.refl _ w).alloc (Nat.le_refl _) _
  have h1 := h.block fun i hi => hA.block i (h.lt i hi)
  have f1 := h1.box.frozen 4
  obtain ⟨c0, c1, c2, c3, c4⟩ := h1.box.cells
  have hto := (RefTo.set (h.set (s' := { s with room := n }) (h.box.set4 (.int .i64 n)) rfl rfl)).trans fun F1 h1 => RefTo.same h1 ((Below.refl _ _).alloc (Nat.le_refl _) (.cells #[.int .u8 7, .int .i64 store, .int .i64 n, .int .i64 at_, .int .i64 c] 39))
  have hlb := h.box.lt
  replace hto := Lib.hid hto
  unfold Flt.agg
  dsimp only
  clear h h1 hb
  go_enter Tryz.func56, Tryz.ntmps56
  go_wp2_with fail
  go_ret
  exact ⟨rfl, hto.out⟩

set_option maxHeartbeats 4000000 in
set_option maxRecDepth 100000 in
theorem ref_strike_wipe (b : Nat) (F : List Nat) (N : Nat) (s : Sto) (hs : StoOk N s) (store n at_ c : Int) (hb : (⟨1, store, n, at_, c⟩ : Flt).bad = false) (w : World) (h : RefAt w b F s) :
    Calls Tryz.prog 56 #[.pointer (some ⟨b, 0, none⟩), (⟨1, store, n, at_, c⟩ : Flt).agg] w fun e w' => e = .returned (.int .i64 0) ∧ RefTo b F (({ s with seen := [] } : Sto).settled) w w' := by
  have hcs : ¬ n < 0 ∧ ¬ at_ < 0 ∧ ¬ c < 0 ∧ ¬ 255 < c := by simp [Flt.bad] at hb; omega
  obtain ⟨k3, k4, k5, k6⟩ := hcs
  have hlen : s.seen.length ≤ 1000000 := Nat.le_trans hs.seenLen hs.cap
  obtain ⟨G, V, rfl, h⟩ := h
  have hA : Below w.heap.size w (w.alloc (.cells #[.int .u8 1, .int .i64 store, .int .i64 n, .int .i64 at_, .int .i64 c] 39)) := (Below.refl _ w).alloc (Nat.le_refl _) _
  have h1 := h.block fun i hi => hA.block i (h.lt i hi)
  have hz0 : (w.alloc (.cells #[.int .u8 1, .int .i64 store, .int .i64 n, .int .i64 at_, .int .i64 c] 39)).heap.size = w.heap.size + 1 := by simp
  have x0 := newCell w #[.int .u8 1, .int .i64 store, .int .i64 n, .int .i64 at_, .int .i64 c] 39 (0, 0) 0
  have x2 := newCell w #[.int .u8 1, .int .i64 store, .int .i64 n, .int .i64 at_, .int .i64 c] 39 (0, 0) 2
  have x3 := newCell w #[.int .u8 1, .int .i64 store, .int .i64 n, .int .i64 at_, .int .i64 c] 39 (0, 0) 3
  have x4 := newCell w #[.int .u8 1, .int .i64 store, .int .i64 n, .int .i64 at_, .int .i64 c] 39 (0, 0) 4
  have hlb := h.box.lt
  unfold Flt.agg
  dsimp only
  clear h hb
  go_enter Tryz.func56, Tryz.ntmps56
  go_upto_region 3 with fail
  generalize (w.alloc (.cells #[.int .u8 1, .int .i64 store, .int .i64 n, .int .i64 at_, .int .i64 c] 39)) = w0 at hA h1 hz0 x0 x2 x3 x4 ⊢
  have hO := ref07_Objects b _ N s hs w0 ⟨G, V, rfl, h1⟩
  clear hs
  replace h1 := Lib.hid h1
  go_wp2_with fail
  refine hO.mono ?_
  rintro e w1 ⟨v, rfl, o1, b1⟩
  obtain ⟨A, m, cc, rfl⟩ : ∃ A m c, v = .slice A m c := by obtain ⟨A, c, e⟩ := Owns.form o1; exact ⟨A, _, c, e⟩
  have hzw1 := b1.size
  have y0 := (b1.cell (p := ⟨w.heap.size, 0, none⟩) (by simp; omega)).trans x0
  have y2 := (b1.cell (p := ⟨w.heap.size, 2, none⟩) (by simp; omega)).trans x2
  have y3 := (b1.cell (p := ⟨w.heap.size, 3, none⟩) (by simp; omega)).trans x3
  have y4 := (b1.cell (p := ⟨w.heap.size, 4, none⟩) (by simp; omega)).trans x4
  have hx := h1.out.box.below h1.out.box.lt b1
  have f0 := hx.frozen 0
  have hx2 := hx.set0 (.slice A m cc)
  have f1 := hx2.frozen 1
  have hx3 := hx2.set1 (.slice none 0 0)
  obtain ⟨d0, d1, _, _, _⟩ := hx.cells
  obtain ⟨g0, g1, _, _, _⟩ := hx2.cells
  have hin : RefIn ((w1.setCell ⟨b, 0, none⟩ (.slice A m cc)).setCell ⟨b, 1, none⟩ (.slice none 0 0)) b (.slice A m cc) (.slice none 0 0) s.settled := (h1.out.goodTo (s' := { s with good := s.seen }) o1 b1 rfl rfl rfl rfl).writesTo rfl rfl rfl rfl rfl
  have hto : RefTo b (b :: (G.ownBlock.toList ++ V.ownBlock.toList)) s.settled w ((w1.setCell ⟨b, 0, none⟩ (.slice A m cc)).setCell ⟨b, 1, none⟩ (.slice none 0 0)) := by
    refine RefTo.ahead hA ((RefTo.goodTo (s' := { s with good := s.seen }) h1.out o1 b1 rfl rfl rfl rfl).trans fun F1 h1 => ?_)
    obtain ⟨G1, V1, rfl, h1⟩ := h1
    exact RefTo.writesTo h1 rfl rfl rfl rfl rfl
  have hsub : ∀ i ∈ b :: ((Value.slice A m cc).ownBlock.toList ++ (Value.slice none 0 0).ownBlock.toList), i ∈ b :: (G.ownBlock.toList ++ V.ownBlock.toList) ∨ w.heap.size ≤ i := fun i hi => by
    simp only [List.mem_cons, List.mem_append, Option.mem_toList] at hi ⊢
    rcases hi with rfl | hi | hi
    · exact .inl (.inl rfl)
    · exact .inr (Nat.le_trans hA.size (o1.within hi).1)
    · cases hi
  have hbt : But (b :: (G.ownBlock.toList ++ V.ownBlock.toList)) w ((w1.setCell ⟨b, 0, none⟩ (.slice A m cc)).setCell ⟨b, 1, none⟩ (.slice none 0 0)) := by
    obtain ⟨_, _, hb, _⟩ := hto
    exact hb
  have r1 := Owns.row (k := 2) (fun x => objE.len x) hin.good
  clear o1 hO d1 x0 x2 x3 x4
  have hwb : w.heap.size ≠ b := by omega
  replace hin := Lib.hid hin
  replace hto := Lib.hid hto
  replace hsub := Lib.hid hsub
  replace hbt := Lib.hid hbt
  replace hx := Lib.hid hx
  replace hx2 := Lib.hid hx2
  replace hx3 := Lib.hid hx3
  replace r1 := Lib.hid r1
  have v0 := (World.cell?_of_block (a := ⟨w.heap.size, 0, none⟩) (Go.Deep.blk_setCell_other w1 ⟨b, 0, none⟩ (.slice A m cc) _ hwb)).trans y0
  have z0 := (World.cell?_of_block (a := ⟨w.heap.size, 0, none⟩) (Go.Deep.blk_setCell_other _ ⟨b, 1, none⟩ (.slice none 0 0) _ hwb)).trans v0
  have z2 := (World.cell?_of_block (a := ⟨w.heap.size, 2, none⟩) ((Go.Deep.blk_setCell_other _ ⟨b, 1, none⟩ (.slice none 0 0) _ hwb).trans (Go.Deep.blk_setCell_other w1 ⟨b, 0, none⟩ (.slice A m cc) _ hwb))).trans y2
  have z3 := (World.cell?_of_block (a := ⟨w.heap.size, 3, none⟩) ((Go.Deep.blk_setCell_other _ ⟨b, 1, none⟩ (.slice none 0 0) _ hwb).trans (Go.Deep.blk_setCell_other w1 ⟨b, 0, none⟩ (.slice A m cc) _ hwb))).trans y3
  have z4 := (World.cell?_of_block (a := ⟨w.heap.size, 4, none⟩) ((Go.Deep.blk_setCell_other _ ⟨b, 1, none⟩ (.slice none 0 0) _ hwb).trans (Go.Deep.blk_setCell_other w1 ⟨b, 0, none⟩ (.slice A m cc) _ hwb))).trans y4
  have hzw3 : w.heap.size < ((w1.setCell ⟨b, 0, none⟩ (.slice A m cc)).setCell ⟨b, 1, none⟩ (.slice none 0 0)).heap.size := by simp; omega
  clear y2 y3 y4
  go_upto_region 6 with fail
  clear y0 v0 d0 g0 g1 f0 f1
  generalize (w1.setCell ⟨b, 0, none⟩ (.slice A m cc)).setCell ⟨b, 1, none⟩ (.slice none 0 0) = W3 at hx3 hin hto hbt r1 z0 z2 z3 z4 hzw3 ⊢
  have hx := hx3.out
  have q0 := hx.frozen 0
  obtain ⟨d0, d1, _, _, _⟩ := hx.cells
  have hfin : RefTo b (b :: (G.ownBlock.toList ++ V.ownBlock.toList)) ({ s with seen := [] } : Sto).settled w (W3.setCell ⟨b, 0, none⟩ (.slice none 0 0)) := RefTo.over hbt.out (RefTo.goodTo (s' := ({ s with seen := [] } : Sto).settled) hin.out Owns.nil_ (Below.refl _ _) rfl rfl rfl rfl) hsub.out
  replace hfin := Lib.hid hfin
  replace hx := Lib.hid hx
  go_wp2_with fail
  go_ret
  exact ⟨rfl, hfin.out⟩

set_option maxHeartbeats 4000000 in
set_option maxRecDepth 100000 in
theorem ref_strike_lose (b : Nat) (F : List Nat) (N : Nat) (s : Sto) (hs : StoOk N s) (store n at_ c : Int) (hb : (⟨2, store, n, at_, c⟩ : Flt).bad = false) (w : World) (h : RefAt w b F s) :
    Calls Tryz.prog 56 #[.pointer (some ⟨b, 0, none⟩), (⟨2, store, n, at_, c⟩ : Flt).agg] w fun e w' => e = .returned (.int .i64 0) ∧ RefTo b F (s.lost n) w w' := by
  have hcs : ¬ n < 0 ∧ ¬ at_ < 0 ∧ ¬ c < 0 ∧ ¬ 255 < c := by simp [Flt.bad] at hb; omega
  obtain ⟨k3, k4, k5, k6⟩ := hcs
  have hlen : s.seen.length ≤ 1000000 := Nat.le_trans hs.seenLen hs.cap
  obtain ⟨G, V, rfl, h⟩ := h
  have hA : Below w.heap.size w (w.alloc (.cells #[.int .u8 2, .int .i64 store, .int .i64 n, .int .i64 at_, .int .i64 c] 39)) := (Below.refl _ w).alloc (Nat.le_refl _) _
  have h1 := h.block fun i hi => hA.block i (h.lt i hi)
  have hz0 : (w.alloc (.cells #[.int .u8 2, .int .i64 store, .int .i64 n, .int .i64 at_, .int .i64 c] 39)).heap.size = w.heap.size + 1 := by simp
  have x0 := newCell w #[.int .u8 2, .int .i64 store, .int .i64 n, .int .i64 at_, .int .i64 c] 39 (0, 0) 0
  have x2 := newCell w #[.int .u8 2, .int .i64 store, .int .i64 n, .int .i64 at_, .int .i64 c] 39 (0, 0) 2
  have x3 := newCell w #[.int .u8 2, .int .i64 store, .int .i64 n, .int .i64 at_, .int .i64 c] 39 (0, 0) 3
  have x4 := newCell w #[.int .u8 2, .int .i64 store, .int .i64 n, .int .i64 at_, .int .i64 c] 39 (0, 0) 4
  have hlb := h.box.lt
  unfold Flt.agg
  dsimp only
  clear h hb
  go_enter Tryz.func56, Tryz.ntmps56
  go_upto_region 3 with fail
  generalize (w.alloc (.cells #[.int .u8 2, .int .i64 store, .int .i64 n, .int .i64 at_, .int .i64 c] 39)) = w0 at hA h1 hz0 x0 x2 x3 x4 ⊢
  have hO := ref07_Objects b _ N s hs w0 ⟨G, V, rfl, h1⟩
  clear hs
  replace h1 := Lib.hid h1
  go_wp2_with fail
  refine hO.mono ?_
  rintro e w1 ⟨v, rfl, o1, b1⟩
  obtain ⟨A, m, cc, rfl⟩ : ∃ A m c, v = .slice A m c := by obtain ⟨A, c, e⟩ := Owns.form o1; exact ⟨A, _, c, e⟩
  have hzw1 := b1.size
  have y0 := (b1.cell (p := ⟨w.heap.size, 0, none⟩) (by simp; omega)).trans x0
  have y2 := (b1.cell (p := ⟨w.heap.size, 2, none⟩) (by simp; omega)).trans x2
  have y3 := (b1.cell (p := ⟨w.heap.size, 3, none⟩) (by simp; omega)).trans x3
  have y4 := (b1.cell (p := ⟨w.heap.size, 4, none⟩) (by simp; omega)).trans x4
  have hx := h1.out.box.below h1.out.box.lt b1
  have f0 := hx.frozen 0
  have hx2 := hx.set0 (.slice A m cc)
  have f1 := hx2.frozen 1
  have hx3 := hx2.set1 (.slice none 0 0)
  obtain ⟨d0, d1, _, _, _⟩ := hx.cells
  obtain ⟨g0, g1, _, _, _⟩ := hx2.cells
  have hin : RefIn ((w1.setCell ⟨b, 0, none⟩ (.slice A m cc)).setCell ⟨b, 1, none⟩ (.slice none 0 0)) b (.slice A m cc) (.slice none 0 0) s.settled := (h1.out.goodTo (s' := { s with good := s.seen }) o1 b1 rfl rfl rfl rfl).writesTo rfl rfl rfl rfl rfl
  have hto : RefTo b (b :: (G.ownBlock.toList ++ V.ownBlock.toList)) s.settled w ((w1.setCell ⟨b, 0, none⟩ (.slice A m cc)).setCell ⟨b, 1, none⟩ (.slice none 0 0)) := by
    refine RefTo.ahead hA ((RefTo.goodTo (s' := { s with good := s.seen }) h1.out o1 b1 rfl rfl rfl rfl).trans fun F1 h1 => ?_)
    obtain ⟨G1, V1, rfl, h1⟩ := h1
    exact RefTo.writesTo h1 rfl rfl rfl rfl rfl
  have hsub : ∀ i ∈ b :: ((Value.slice A m cc).ownBlock.toList ++ (Value.slice none 0 0).ownBlock.toList), i ∈ b :: (G.ownBlock.toList ++ V.ownBlock.toList) ∨ w.heap.size ≤ i := fun i hi => by
    simp only [List.mem_cons, List.mem_append, Option.mem_toList] at hi ⊢
    rcases hi with rfl | hi | hi
    · exact .inl (.inl rfl)
    · exact .inr (Nat.le_trans hA.size (o1.within hi).1)
    · cases hi
  have hbt : But (b :: (G.ownBlock.toList ++ V.ownBlock.toList)) w ((w1.setCell ⟨b, 0, none⟩ (.slice A m cc)).setCell ⟨b, 1, none⟩ (.slice none 0 0)) := by
    obtain ⟨_, _, hb, _⟩ := hto
    exact hb
  have r1 := Owns.row (k := 2) (fun x => objE.len x) hin.good
  clear o1 hO d1 x0 x2 x3 x4
  have hwb : w.heap.size ≠ b := by omega
  replace hin := Lib.hid hin
  replace hto := Lib.hid hto
  replace hsub := Lib.hid hsub
  replace hbt := Lib.hid hbt
  replace hx := Lib.hid hx
  replace hx2 := Lib.hid hx2
  replace hx3 := Lib.hid hx3
  replace r1 := Lib.hid r1
  have v0 := (World.cell?_of_block (a := ⟨w.heap.size, 0, none⟩) (Go.Deep.blk_setCell_other w1 ⟨b, 0, none⟩ (.slice A m cc) _ hwb)).trans y0
  have z0 := (World.cell?_of_block (a := ⟨w.heap.size, 0, none⟩) (Go.Deep.blk_setCell_other _ ⟨b, 1, none⟩ (.slice none 0 0) _ hwb)).trans v0
  have z2 := (World.cell?_of_block (a := ⟨w.heap.size, 2, none⟩) ((Go.Deep.blk_setCell_other _ ⟨b, 1, none⟩ (.slice none 0 0) _ hwb).trans (Go.Deep.blk_setCell_other w1 ⟨b, 0, none⟩ (.slice A m cc) _ hwb))).trans y2
  have z3 := (World.cell?_of_block (a := ⟨w.heap.size, 3, none⟩) ((Go.Deep.blk_setCell_other _ ⟨b, 1, none⟩ (.slice none 0 0) _ hwb).trans (Go.Deep.blk_setCell_other w1 ⟨b, 0, none⟩ (.slice A m cc) _ hwb))).trans y3
  have z4 := (World.cell?_of_block (a := ⟨w.heap.size, 4, none⟩) ((Go.Deep.blk_setCell_other _ ⟨b, 1, none⟩ (.slice none 0 0) _ hwb).trans (Go.Deep.blk_setCell_other w1 ⟨b, 0, none⟩ (.slice A m cc) _ hwb))).trans y4
  have hzw3 : w.heap.size < ((w1.setCell ⟨b, 0, none⟩ (.slice A m cc)).setCell ⟨b, 1, none⟩ (.slice none 0 0)).heap.size := by simp; omega
  clear y2 y3 y4
  go_upto_region 6 with fail
  clear y0 v0 d0 g0 g1 f0 f1
  generalize (w1.setCell ⟨b, 0, none⟩ (.slice A m cc)).setCell ⟨b, 1, none⟩ (.slice none 0 0) = W3 at hx3 hin hto hbt r1 z0 z2 z3 z4 hzw3 ⊢
  have hx := hx3.out
  have q0 := hx.frozen 0
  obtain ⟨d0, d1, _, _, _⟩ := hx.cells
  have hsl : s.seen.length = m := r1.out.1
  by_cases hm0 : m = 0
  · subst hm0
    have hr : Hid (s.lost n = s.settled) := by
      unfold Hid Sto.lost Sto.hit
      rw [List.eq_nil_of_length_eq_zero hsl]
      rfl
    replace hx := Lib.hid hx
    replace hsl := Lib.hid hsl
    go_wp2_with fail
    go_ret
    exact ⟨rfl, by rw [hr.out]; exact hto.out⟩
  obtain ⟨q, hq, hqe, hqv⟩ := rest_vals (n := n) (m := m) (by omega) (by omega)
  have hm1 : (0 : Int) < (m : Int) := by omega
  have hm2 : 0 < m := by omega
  go_upto_region 11 with fail
  obtain ⟨b0, off, p, rfl, hb0, hp, p0, p1⟩ := r1.out.ob hq
  have hr : Hid (s.lost n = ({ s with seen := delO s.seen p.1 } : Sto).settled) := by
    unfold Hid Sto.lost Sto.hit
    rw [hsl, hqe, show s.seen[q]? = some p from hp]
  have hmne : ((m : Int) == 0) = false := by simp; omega
  have hqm : (q : Int) < (m : Int) := by omega
  have hlb3 := hx.lt
  have hD := ref07_drop (some ⟨b0, off, none⟩) m cc s.seen p.1 W3.drew r1.out (by omega)
  replace hp := Lib.hid hp
  replace hqe := Lib.hid hqe
  replace hsl := Lib.hid hsl
  replace hx := Lib.hid hx
  replace hD := Lib.hid hD
  refine region_held_tail 21 (fun W : World => W.cell? ⟨b, 0, none⟩ = some (.slice (some ⟨b0, off, none⟩) m cc) ∧ W.cell? ⟨w.heap.size, 2, none⟩ = some (.int .i64 n) ∧ W.cell? ⟨b0, off + q * 2, none⟩ = some (.string p.1)) (by kernel_rfl) (by kernel_rfl) ?_
  have hHeld : (fun W : World => W.cell? ⟨b, 0, none⟩ = some (.slice (some ⟨b0, off, none⟩) m cc) ∧ W.cell? ⟨w.heap.size, 2, none⟩ = some (.int .i64 n) ∧ W.cell? ⟨b0, off + q * 2, none⟩ = some (.string p.1)) W3.drew := ⟨d0, z2, p0⟩
  (refine HT.takeL (i := 0) (v := ?_) rfl (by kernel_rfl) (fun _ _ _ h => h) (Or.inl ⟨by rfl, ?_⟩) (by assumption) ?_
   rotate_left
   · (intro w hSw; (try dsimp only at hSw); go_simp; (try with_reducible rfl))
   try simp only [Act.put, List.setIfInBounds_toArray, List.set_cons_zero, List.set_cons_succ])
  (refine HT.takeL (i := 1) (v := ?_) rfl (by kernel_rfl) (fun _ _ _ h => h) (Or.inl ⟨by rfl, ?_⟩) (by assumption) ?_
   rotate_left
   · (intro w hSw; (try dsimp only at hSw); go_simp; (try with_reducible rfl))
   try simp only [Act.put, List.setIfInBounds_toArray, List.set_cons_zero, List.set_cons_succ])
  (refine HT.takeL (i := 2) (v := ?_) rfl (by kernel_rfl) (fun _ _ _ h => h) (Or.inl ⟨by rfl, ?_⟩) (by assumption) ?_
   rotate_left
   · (intro w hSw; (try dsimp only at hSw); go_simp; (try with_reducible rfl))
   try simp only [Act.put, List.setIfInBounds_toArray, List.set_cons_zero, List.set_cons_succ])
  (refine HT.takeL (i := 3) (v := ?_) rfl (by kernel_rfl) (fun _ _ _ h => h) (Or.inl ⟨by rfl, ?_⟩) (by assumption) ?_
   rotate_left
   · (intro w hSw; (try dsimp only at hSw); go_simp; (try with_reducible rfl))
   try simp only [Act.put, List.setIfInBounds_toArray, List.set_cons_zero, List.set_cons_succ])
  (refine HT.takeL (i := 4) (v := ?_) rfl (by kernel_rfl) (fun _ _ _ h => h) (Or.inl ⟨by rfl, ?_⟩) (by assumption) ?_
   rotate_left
   · (intro w hSw; (try dsimp only at hSw); go_simp; (try with_reducible rfl))
   try simp only [Act.put, List.setIfInBounds_toArray, List.set_cons_zero, List.set_cons_succ])
  (refine HT.takeL (i := 5) (v := ?_) rfl (by kernel_rfl) (fun _ _ _ h => h) (Or.inl ⟨by rfl, ?_⟩) (by assumption) ?_
   rotate_left
   · (intro w hSw; (try dsimp only at hSw); go_simp; (try with_reducible rfl))
   try simp only [Act.put, List.setIfInBounds_toArray, List.set_cons_zero, List.set_cons_succ])
  (refine HT.takeL (i := 6) (v := ?_) rfl (by kernel_rfl) (fun _ _ _ h => h) (Or.inl ⟨by rfl, ?_⟩) (by assumption) ?_
   rotate_left
   · (intro w hSw; (try dsimp only at hSw); go_simp; (try with_reducible rfl))
   try simp only [Act.put, List.setIfInBounds_toArray, List.set_cons_zero, List.set_cons_succ])
  (refine HT.takeL (i := 7) (v := ?_) rfl (by kernel_rfl) (fun _ _ _ h => h) (Or.inl ⟨by rfl, ?_⟩) (by assumption) ?_
   rotate_left
   · (intro w hSw; (try dsimp only at hSw); go_simp; (try with_reducible rfl))
   try simp only [Act.put, List.setIfInBounds_toArray, List.set_cons_zero, List.set_cons_succ])
  (refine HT.takeL (i := 8) (v := ?_) rfl (by kernel_rfl) (fun _ _ _ h => h) (Or.inl ⟨by rfl, ?_⟩) (by assumption) ?_
   rotate_left
   · (intro w hSw; (try dsimp only at hSw); go_simp; (try with_reducible rfl))
   try simp only [Act.put, List.setIfInBounds_toArray, List.set_cons_zero, List.set_cons_succ])
  (refine HT.takeL (i := 9) (v := ?_) rfl (by kernel_rfl) (fun _ _ _ h => h) (Or.inl ⟨by rfl, ?_⟩) (by assumption) ?_
   rotate_left
   · (intro w hSw; (try dsimp only at hSw); go_simp; (try with_reducible rfl))
   try simp only [Act.put, List.setIfInBounds_toArray, List.set_cons_zero, List.set_cons_succ])
  (refine HT.takeL (i := 10) (v := ?_) rfl (by kernel_rfl) (fun _ _ _ h => h) (Or.inl ⟨by rfl, ?_⟩) (by assumption) ?_
   rotate_left
   · (intro w hSw; (try dsimp only at hSw); go_simp; (try with_reducible rfl))
   try simp only [Act.put, List.setIfInBounds_toArray, List.set_cons_zero, List.set_cons_succ])
  (refine HT.takeL (i := 11) (v := ?_) rfl (by kernel_rfl) (fun _ _ _ h => h) (Or.inl ⟨by rfl, ?_⟩) (by assumption) ?_
   rotate_left
   · (intro w hSw; (try dsimp only at hSw); go_simp; (try with_reducible rfl))
   try simp only [Act.put, List.setIfInBounds_toArray, List.set_cons_zero, List.set_cons_succ])
  (refine HT.takeL (i := 12) (v := ?_) rfl (by kernel_rfl) (fun _ _ _ h => h) (Or.inl ⟨by rfl, ?_⟩) (by assumption) ?_
   rotate_left
   · (intro w hSw; (try dsimp only at hSw); go_simp; (try with_reducible rfl))
   try simp only [Act.put, List.setIfInBounds_toArray, List.set_cons_zero, List.set_cons_succ])
  (refine HT.takeL (i := 13) (v := ?_) rfl (by kernel_rfl) (fun _ _ _ h => h) (Or.inl ⟨by rfl, ?_⟩) (by assumption) ?_
   rotate_left
   · (intro w hSw; (try dsimp only at hSw); go_simp; (try with_reducible rfl))
   try simp only [Act.put, List.setIfInBounds_toArray, List.set_cons_zero, List.set_cons_succ])
  (refine HT.takeL (i := 14) (v := ?_) rfl (by kernel_rfl) (fun _ _ _ h => h) (Or.inl ⟨by rfl, ?_⟩) (by assumption) ?_
   rotate_left
   · (intro w hSw; (try dsimp only at hSw); go_simp; (try with_reducible rfl))
   try simp only [Act.put, List.setIfInBounds_toArray, List.set_cons_zero, List.set_cons_succ])
  (refine HT.takeL (i := 15) (v := ?_) rfl (by kernel_rfl) (fun _ _ _ h => h) (Or.inl ⟨by rfl, ?_⟩) (by assumption) ?_
   rotate_left
   · (intro w hSw; (try dsimp only at hSw); go_simp; (try with_reducible rfl))
   try simp only [Act.put, List.setIfInBounds_toArray, List.set_cons_zero, List.set_cons_succ])
  (refine HT.takeL (i := 16) (v := ?_) rfl (by kernel_rfl) (fun _ _ _ h => h) (Or.inl ⟨by rfl, ?_⟩) (by assumption) ?_
   rotate_left
   · (intro w hSw; (try dsimp only at hSw); go_simp; (try with_reducible rfl))
   try simp only [Act.put, List.setIfInBounds_toArray, List.set_cons_zero, List.set_cons_succ])
  (refine HT.takeL (i := 17) (v := ?_) rfl (by kernel_rfl) (fun _ _ _ h => h) (Or.inl ⟨by rfl, ?_⟩) (by assumption) ?_
   rotate_left
   · (intro w hSw; (try dsimp only at hSw); go_simp; (try with_reducible rfl))
   try simp only [Act.put, List.setIfInBounds_toArray, List.set_cons_zero, List.set_cons_succ])
  (refine HT.takeL (i := 18) (v := ?_) rfl (by kernel_rfl) (fun _ _ _ h => h) (Or.inl ⟨by rfl, ?_⟩) (by assumption) ?_
   rotate_left
   · (intro w hSw; (try dsimp only at hSw); go_simp; (try with_reducible rfl))
   try simp only [Act.put, List.setIfInBounds_toArray, List.set_cons_zero, List.set_cons_succ])
  (refine HT.takeL (i := 19) (v := ?_) rfl (by kernel_rfl) (fun _ _ _ h => h) (Or.inl ⟨by rfl, ?_⟩) (by assumption) ?_
   rotate_left
   · (intro w hSw; (try dsimp only at hSw); go_simp; (try with_reducible rfl))
   try simp only [Act.put, List.setIfInBounds_toArray, List.set_cons_zero, List.set_cons_succ])
  (refine HT.onlyL (i := 20) rfl (by kernel_rfl) (fun K hK => ?_)
   (go_simp; (refine hD.out.mono ?_; rintro e w2 ⟨v2, rfl, o2, b2⟩))
   refine hK.out _ _ ?_ (fun hHeld => ?_)
   · (exact ⟨(b2.cell (p := ⟨b, 0, none⟩) (by simp; omega)).trans d0, (b2.cell (p := ⟨w.heap.size, 2, none⟩) (by simp; omega)).trans z2, (b2.cell (p := ⟨b0, off + q * 2, none⟩) hb0).trans p0⟩)
   clear hK K
   try simp only [Act.put, List.setIfInBounds_toArray, List.set_cons_zero, List.set_cons_succ])
  refine HT.tail (by kernel_rfl) ?_
  simp only [List.drop_succ_cons, List.drop_zero]
  obtain ⟨A9, m9, c9, rfl⟩ : ∃ A m c, v2 = .slice A m c := by obtain ⟨A, c, e⟩ := Owns.form o2; exact ⟨A, _, c, e⟩
  have b3 : Below W3.heap.size W3 w2 := (Below.refl _ W3).drew.trans b2
  have hx9 := hx.out.below hx.out.lt b3
  have q9 := hx9.frozen 0
  obtain ⟨e0, _, _, _, _⟩ := hx9.cells
  have hfin : RefTo b (b :: (G.ownBlock.toList ++ V.ownBlock.toList)) (s.lost n) w (w2.setCell ⟨b, 0, none⟩ (.slice A9 m9 c9)) := by
    rw [hr.out]
    exact RefTo.over hbt.out (RefTo.goodTo (s' := ({ s with seen := delO s.seen p.1 } : Sto).settled) hin.out o2 b3 rfl rfl rfl rfl) hsub.out
  replace hfin := Lib.hid hfin
  replace hx9 := Lib.hid hx9
  clear o2 hHeld d0 z2 p0
  go_wp2_with fail
  go_ret
  exact ⟨rfl, hfin.out⟩
end Go.Proofs.YtfkonpmnclknaaaGreat
/-
  The reference's Strike by Bend.
-/
namespace Go.Proofs.YtfkonpmnclknaaaGreat
open Go.RowKit
attribute [local go_sem ↓] Go.wp_at_zero Go.wp_at_succ

theorem strU_size (x : List UInt8) : (str x).size = x.length := by simp [str]; rfl
theorem strU_add {l l' r : List UInt8} (hr : r = l ++ l') (h : l.length + l'.length ≤ 1000000000) (w : World) : (Op.stringOp .add (str l) (str l')).run Tryz.prog w = .ok (.string (str r)) w := by
  have h' : ¬ ((9223372036854775807 : Int) < ((str l).size : Int) + ((str l').size : Int)) := by rw [strU_size, strU_size]; omega
  have hc : str l ++ str l' = str (l ++ l') := by
    apply ByteArray.ext
    simp [str, ByteArray.data_append]
  rw [hr, ← hc]
  simp [Op.stringOp, h']
theorem extU_head (d : ByteArray) (q : Nat) : d.extract 0 q = str ((bl d).take q) := by
  apply ByteArray.ext
  simp only [str, ByteArray.data_extract]
  apply Array.ext'
  rw [Array.toList_extract]
  simp [List.extract, bl]
theorem extU_tail (d : ByteArray) (q : Nat) : d.extract q d.size = str ((bl d).drop q) := by
  apply ByteArray.ext
  simp only [str, ByteArray.data_extract]
  apply Array.ext'
  rw [Array.toList_extract]
  simp only [List.extract, bl]
  rw [List.take_of_length_le]
  rw [List.length_drop]
  exact Nat.le_refl _
theorem setU (d : ByteArray) {q : Nat} (h : q < d.size) (u : UInt8) : (bl d).set q u = (bl d).take q ++ [u] ++ (bl d).drop (q + 1) := by
  have hl : q < (bl d).length := by rw [show (bl d).length = d.size from Array.length_toList]; exact h
  rw [List.set_eq_take_append_cons_drop, if_pos hl]
  simp

set_option maxHeartbeats 4000000 in
set_option maxRecDepth 100000 in
theorem ref_strike_bend (b : Nat) (F : List Nat) (N : Nat) (s : Sto) (hs : StoOk N s) (store n at_ c : Int) (hb : (⟨3, store, n, at_, c⟩ : Flt).bad = false) (w : World) (h : RefAt w b F s) :
    Calls Tryz.prog 56 #[.pointer (some ⟨b, 0, none⟩), (⟨3, store, n, at_, c⟩ : Flt).agg] w fun e w' => e = .returned (.int .i64 0) ∧ RefTo b F (s.bent n at_ c) w w' := by
  have hcs : ¬ n < 0 ∧ ¬ at_ < 0 ∧ ¬ c < 0 ∧ ¬ 255 < c := by simp [Flt.bad] at hb; omega
  obtain ⟨k3, k4, k5, k6⟩ := hcs
  have hlen : s.seen.length ≤ 1000000 := Nat.le_trans hs.seenLen hs.cap
  have hokO := Lib.hid hs.ns
  obtain ⟨G, V, rfl, h⟩ := h
  have hA : Below w.heap.size w (w.alloc (.cells #[.int .u8 3, .int .i64 store, .int .i64 n, .int .i64 at_, .int .i64 c] 39)) := (Below.refl _ w).alloc (Nat.le_refl _) _
  have h1 := h.block fun i hi => hA.block i (h.lt i hi)
  have hz0 : (w.alloc (.cells #[.int .u8 3, .int .i64 store, .int .i64 n, .int .i64 at_, .int .i64 c] 39)).heap.size = w.heap.size + 1 := by simp
  have x0 := newCell w #[.int .u8 3, .int .i64 store, .int .i64 n, .int .i64 at_, .int .i64 c] 39 (0, 0) 0
  have x2 := newCell w #[.int .u8 3, .int .i64 store, .int .i64 n, .int .i64 at_, .int .i64 c] 39 (0, 0) 2
  have x3 := newCell w #[.int .u8 3, .int .i64 store, .int .i64 n, .int .i64 at_, .int .i64 c] 39 (0, 0) 3
  have x4 := newCell w #[.int .u8 3, .int .i64 store, .int .i64 n, .int .i64 at_, .int .i64 c] 39 (0, 0) 4
  have hlb := h.box.lt
  unfold Flt.agg
  dsimp only
  clear h hb
  go_enter Tryz.func56, Tryz.ntmps56
  go_upto_region 3 with fail
  generalize (w.alloc (.cells #[.int .u8 3, .int .i64 store, .int .i64 n, .int .i64 at_, .int .i64 c] 39)) = w0 at hA h1 hz0 x0 x2 x3 x4 ⊢
  have hO := ref07_Objects b _ N s hs w0 ⟨G, V, rfl, h1⟩
  clear hs
  replace h1 := Lib.hid h1
  go_wp2_with fail
  refine hO.mono ?_
  rintro e w1 ⟨v, rfl, o1, b1⟩
  obtain ⟨A, m, cc, rfl⟩ : ∃ A m c, v = .slice A m c := by obtain ⟨A, c, e⟩ := Owns.form o1; exact ⟨A, _, c, e⟩
  have hzw1 := b1.size
  have y0 := (b1.cell (p := ⟨w.heap.size, 0, none⟩) (by simp; omega)).trans x0
  have y2 := (b1.cell (p := ⟨w.heap.size, 2, none⟩) (by simp; omega)).trans x2
  have y3 := (b1.cell (p := ⟨w.heap.size, 3, none⟩) (by simp; omega)).trans x3
  have y4 := (b1.cell (p := ⟨w.heap.size, 4, none⟩) (by simp; omega)).trans x4
  have hx := h1.out.box.below h1.out.box.lt b1
  have f0 := hx.frozen 0
  have hx2 := hx.set0 (.slice A m cc)
  have f1 := hx2.frozen 1
  have hx3 := hx2.set1 (.slice none 0 0)
  obtain ⟨d0, d1, _, _, _⟩ := hx.cells
  obtain ⟨g0, g1, _, _, _⟩ := hx2.cells
  have hin : RefIn ((w1.setCell ⟨b, 0, none⟩ (.slice A m cc)).setCell ⟨b, 1, none⟩ (.slice none 0 0)) b (.slice A m cc) (.slice none 0 0) s.settled := (h1.out.goodTo (s' := { s with good := s.seen }) o1 b1 rfl rfl rfl rfl).writesTo rfl rfl rfl rfl rfl
  have hto : RefTo b (b :: (G.ownBlock.toList ++ V.ownBlock.toList)) s.settled w ((w1.setCell ⟨b, 0, none⟩ (.slice A m cc)).setCell ⟨b, 1, none⟩ (.slice none 0 0)) := by
    refine RefTo.ahead hA ((RefTo.goodTo (s' := { s with good := s.seen }) h1.out o1 b1 rfl rfl rfl rfl).trans fun F1 h1 => ?_)
    obtain ⟨G1, V1, rfl, h1⟩ := h1
    exact RefTo.writesTo h1 rfl rfl rfl rfl rfl
  have hsub : ∀ i ∈ b :: ((Value.slice A m cc).ownBlock.toList ++ (Value.slice none 0 0).ownBlock.toList), i ∈ b :: (G.ownBlock.toList ++ V.ownBlock.toList) ∨ w.heap.size ≤ i := fun i hi => by
    simp only [List.mem_cons, List.mem_append, Option.mem_toList] at hi ⊢
    rcases hi with rfl | hi | hi
    · exact .inl (.inl rfl)
    · exact .inr (Nat.le_trans hA.size (o1.within hi).1)
    · cases hi
  have hbt : But (b :: (G.ownBlock.toList ++ V.ownBlock.toList)) w ((w1.setCell ⟨b, 0, none⟩ (.slice A m cc)).setCell ⟨b, 1, none⟩ (.slice none 0 0)) := by
    obtain ⟨_, _, hb, _⟩ := hto
    exact hb
  have r1 := Owns.row (k := 2) (fun x => objE.len x) hin.good
  clear o1 hO d1 x0 x2 x3 x4
  have hwb : w.heap.size ≠ b := by omega
  replace hin := Lib.hid hin
  replace hto := Lib.hid hto
  replace hsub := Lib.hid hsub
  replace hbt := Lib.hid hbt
  replace hx := Lib.hid hx
  replace hx2 := Lib.hid hx2
  replace hx3 := Lib.hid hx3
  replace r1 := Lib.hid r1
  have v0 := (World.cell?_of_block (a := ⟨w.heap.size, 0, none⟩) (Go.Deep.blk_setCell_other w1 ⟨b, 0, none⟩ (.slice A m cc) _ hwb)).trans y0
  have z0 := (World.cell?_of_block (a := ⟨w.heap.size, 0, none⟩) (Go.Deep.blk_setCell_other _ ⟨b, 1, none⟩ (.slice none 0 0) _ hwb)).trans v0
  have z2 := (World.cell?_of_block (a := ⟨w.heap.size, 2, none⟩) ((Go.Deep.blk_setCell_other _ ⟨b, 1, none⟩ (.slice none 0 0) _ hwb).trans (Go.Deep.blk_setCell_other w1 ⟨b, 0, none⟩ (.slice A m cc) _ hwb))).trans y2
  have z3 := (World.cell?_of_block (a := ⟨w.heap.size, 3, none⟩) ((Go.Deep.blk_setCell_other _ ⟨b, 1, none⟩ (.slice none 0 0) _ hwb).trans (Go.Deep.blk_setCell_other w1 ⟨b, 0, none⟩ (.slice A m cc) _ hwb))).trans y3
  have z4 := (World.cell?_of_block (a := ⟨w.heap.size, 4, none⟩) ((Go.Deep.blk_setCell_other _ ⟨b, 1, none⟩ (.slice none 0 0) _ hwb).trans (Go.Deep.blk_setCell_other w1 ⟨b, 0, none⟩ (.slice A m cc) _ hwb))).trans y4
  have hzw3 : w.heap.size < ((w1.setCell ⟨b, 0, none⟩ (.slice A m cc)).setCell ⟨b, 1, none⟩ (.slice none 0 0)).heap.size := by simp; omega
  clear y2 y3 y4
  go_upto_region 6 with fail
  clear y0 v0 d0 g0 g1 f0 f1
  generalize (w1.setCell ⟨b, 0, none⟩ (.slice A m cc)).setCell ⟨b, 1, none⟩ (.slice none 0 0) = W3 at hx3 hin hto hbt r1 z0 z2 z3 z4 hzw3 ⊢
  have hx := hx3.out
  have q0 := hx.frozen 0
  obtain ⟨d0, d1, _, _, _⟩ := hx.cells
  have hsl : s.seen.length = m := r1.out.1
  have hm9 : m ≤ 1000000 := by omega
  by_cases hm0 : m = 0
  · subst hm0
    have hr : Hid (s.bent n at_ c = s.settled) := by
      unfold Hid Sto.bent Sto.hit
      rw [List.eq_nil_of_length_eq_zero hsl]
      rfl
    replace hx := Lib.hid hx
    replace hsl := Lib.hid hsl
    go_wp2_with fail
    go_ret
    exact ⟨rfl, by rw [hr.out]; exact hto.out⟩
  obtain ⟨q, hq, hqe, hqv⟩ := rest_vals (n := n) (m := m) (by omega) (by omega)
  have hm1 : (0 : Int) < (m : Int) := by omega
  have hm2 : 0 < m := by omega
  go_upto_region 14 with fail
  obtain ⟨b0, off, p, rfl, hb0, hp, p0, p1⟩ := r1.out.ob hq
  have hok := hokO.out p (List.mem_of_getElem? hp)
  have hhit : Hid (s.hit n = some p) := by
    unfold Hid Sto.hit
    rw [hsl, hqe]
    exact hp
  have hmne : ((m : Int) == 0) = false := by simp; omega
  have hqm : (q : Int) < (m : Int) := by omega
  have hlb3 := hx.lt
  replace hp := Lib.hid hp
  replace hqe := Lib.hid hqe
  replace hsl := Lib.hid hsl
  replace hx := Lib.hid hx
  refine region_krip (fun W : World => Below W3.heap.size W3 W) (by kernel_rfl) ((Below.refl _ _).drew) ?_
  (refine kF.takeL (i := 0) (v := ?_) rfl (by kernel_rfl) (fun _ _ _ h => h) (Or.inl ⟨by rfl, ?_⟩) ?_
   rotate_left
   · (intro wS hSw; (try dsimp only at hSw); have hcS := fun b o (h : b < W3.heap.size) => hSw.cell (p := ⟨b, o, none⟩) h; go_simp; (try with_reducible rfl))
   try simp only [Act.put, List.setIfInBounds_toArray, List.set_cons_zero, List.set_cons_succ])
  (refine kF.takeL (i := 1) (v := ?_) rfl (by kernel_rfl) (fun _ _ _ h => h) (Or.inl ⟨by rfl, ?_⟩) ?_
   rotate_left
   · (intro wS hSw; (try dsimp only at hSw); have hcS := fun b o (h : b < W3.heap.size) => hSw.cell (p := ⟨b, o, none⟩) h; go_simp; (try with_reducible rfl))
   try simp only [Act.put, List.setIfInBounds_toArray, List.set_cons_zero, List.set_cons_succ])
  (refine kF.takeL (i := 2) (v := ?_) rfl (by kernel_rfl) (fun _ _ _ h => h) (Or.inl ⟨by rfl, ?_⟩) ?_
   rotate_left
   · (intro wS hSw; (try dsimp only at hSw); have hcS := fun b o (h : b < W3.heap.size) => hSw.cell (p := ⟨b, o, none⟩) h; go_simp; (try with_reducible rfl))
   try simp only [Act.put, List.setIfInBounds_toArray, List.set_cons_zero, List.set_cons_succ])
  (refine kF.takeL (i := 3) (v := ?_) rfl (by kernel_rfl) (fun _ _ _ h => h) (Or.inl ⟨by rfl, ?_⟩) ?_
   rotate_left
   · (intro wS hSw; (try dsimp only at hSw); have hcS := fun b o (h : b < W3.heap.size) => hSw.cell (p := ⟨b, o, none⟩) h; go_simp; (try with_reducible rfl))
   try simp only [Act.put, List.setIfInBounds_toArray, List.set_cons_zero, List.set_cons_succ])
  (refine kF.takeL (i := 4) (v := ?_) rfl (by kernel_rfl) (fun _ _ _ h => h) (Or.inl ⟨by rfl, ?_⟩) ?_
   rotate_left
   · (intro wS hSw; (try dsimp only at hSw); have hcS := fun b o (h : b < W3.heap.size) => hSw.cell (p := ⟨b, o, none⟩) h; go_simp; (try with_reducible rfl))
   try simp only [Act.put, List.setIfInBounds_toArray, List.set_cons_zero, List.set_cons_succ])
  (refine kF.takeL (i := 5) (v := ?_) rfl (by kernel_rfl) (fun _ _ _ h => h) (Or.inl ⟨by rfl, ?_⟩) ?_
   rotate_left
   · (intro wS hSw; (try dsimp only at hSw); have hcS := fun b o (h : b < W3.heap.size) => hSw.cell (p := ⟨b, o, none⟩) h; go_simp; (try with_reducible rfl))
   try simp only [Act.put, List.setIfInBounds_toArray, List.set_cons_zero, List.set_cons_succ])
  (refine kF.takeL (i := 6) (v := ?_) rfl (by kernel_rfl) (fun _ _ _ h => h) (Or.inl ⟨by rfl, ?_⟩) ?_
   rotate_left
   · (intro wS hSw; (try dsimp only at hSw); have hcS := fun b o (h : b < W3.heap.size) => hSw.cell (p := ⟨b, o, none⟩) h; go_simp; (try with_reducible rfl))
   try simp only [Act.put, List.setIfInBounds_toArray, List.set_cons_zero, List.set_cons_succ])
  (refine kF.takeL (i := 7) (v := ?_) rfl (by kernel_rfl) (fun _ _ _ h => h) (Or.inl ⟨by rfl, ?_⟩) ?_
   rotate_left
   · (intro wS hSw; (try dsimp only at hSw); have hcS := fun b o (h : b < W3.heap.size) => hSw.cell (p := ⟨b, o, none⟩) h; go_simp; (try with_reducible rfl))
   try simp only [Act.put, List.setIfInBounds_toArray, List.set_cons_zero, List.set_cons_succ])
  (refine kF.takeL (i := 8) (v := ?_) rfl (by kernel_rfl) (fun _ _ _ h => h) (Or.inl ⟨by rfl, ?_⟩) ?_
   rotate_left
   · (intro wS hSw; (try dsimp only at hSw); have hcS := fun b o (h : b < W3.heap.size) => hSw.cell (p := ⟨b, o, none⟩) h; go_simp; (try with_reducible rfl))
   try simp only [Act.put, List.setIfInBounds_toArray, List.set_cons_zero, List.set_cons_succ])
  (refine kF.takeL (i := 9) (v := ?_) rfl (by kernel_rfl) (fun _ _ _ h => h) (Or.inl ⟨by rfl, ?_⟩) ?_
   rotate_left
   · (intro wS hSw; (try dsimp only at hSw); have hcS := fun b o (h : b < W3.heap.size) => hSw.cell (p := ⟨b, o, none⟩) h; go_simp; (try with_reducible rfl))
   try simp only [Act.put, List.setIfInBounds_toArray, List.set_cons_zero, List.set_cons_succ])
  (refine kF.takeL (i := 10) (v := ?_) rfl (by kernel_rfl) (fun _ _ _ h => h) (Or.inl ⟨by rfl, ?_⟩) ?_
   rotate_left
   · (intro wS hSw; (try dsimp only at hSw); have hcS := fun b o (h : b < W3.heap.size) => hSw.cell (p := ⟨b, o, none⟩) h; go_simp; (try with_reducible rfl))
   try simp only [Act.put, List.setIfInBounds_toArray, List.set_cons_zero, List.set_cons_succ])
  (refine kF.takeL (i := 11) (v := .int .i64 q) rfl (by kernel_rfl) (fun _ _ _ h => h) (Or.inl ⟨by rfl, ?_⟩) ?_
   · (intro wS hSw; (try dsimp only at hSw); have hcS := fun b o (h : b < W3.heap.size) => hSw.cell (p := ⟨b, o, none⟩) h; go_simp; (try rw [hqv]))
   try simp only [Act.put, List.setIfInBounds_toArray, List.set_cons_zero, List.set_cons_succ])
  (refine kF.takeL (i := 12) (v := ?_) rfl (by kernel_rfl) (fun _ _ _ h => h) (Or.inl ⟨by rfl, ?_⟩) ?_
   rotate_left
   · (intro wS hSw; (try dsimp only at hSw); have hcS := fun b o (h : b < W3.heap.size) => hSw.cell (p := ⟨b, o, none⟩) h; go_simp; (try with_reducible rfl))
   try simp only [Act.put, List.setIfInBounds_toArray, List.set_cons_zero, List.set_cons_succ])
  (refine kF.takeL (i := 13) (v := ?_) rfl (by kernel_rfl) (fun _ _ _ h => h) (Or.inl ⟨by rfl, ?_⟩) ?_
   rotate_left
   · (intro wS hSw; (try dsimp only at hSw); have hcS := fun b o (h : b < W3.heap.size) => hSw.cell (p := ⟨b, o, none⟩) h; go_simp; (try with_reducible rfl))
   try simp only [Act.put, List.setIfInBounds_toArray, List.set_cons_zero, List.set_cons_succ])
  (refine kF.newL (i := 14) (fun b => .pointer (some ⟨b, 0, none⟩)) (.cells #[.string ⟨#[]⟩, .string ⟨#[]⟩] 24) rfl (by kernel_rfl) (by rfl) ?_ ?_
   · (intro wS; go_simp; (try with_reducible rfl)))
  (refine kF.settleL (by kernel_rfl) (fun _ _ h1 h2 => below_S (Nat.le_refl _) h1 h2) (fun u14 hbu14 hSu14 v hv => ?_)
   obtain ⟨bu14, hBu14, rfl, hxu14⟩ := hv
   try simp only [Act.put, List.setIfInBounds_toArray, List.set_cons_zero, List.set_cons_succ])
  have e0 := cell_of_row u14 bu14 0 _ _ _ hxu14
  have e1 := cell_of_row u14 bu14 1 _ _ _ hxu14
  have e2 : ∀ o, u14.frozen? ⟨bu14, o, none⟩ = false := fun o => by unfold World.frozen?; simp [hxu14]
  have e3 := e2 0
  have e4 := e2 1
  have hBu14' : W3.heap.size ≤ bu14 := hBu14
  (refine kF.lastL (j := 15) rfl (by kernel_rfl) (fun _ _ _ _ _ h => h) (fun _ _ h1 h2 => below_S (Nat.le_refl _) h1 h2) (fun hSk K hK => ?_)
   go_simp
   refine hK.out _ _ (((hSk.setCell (p := ⟨bu14, 0, none⟩) hBu14' (.string p.1)).setCell (p := ⟨bu14, 1, none⟩) hBu14' (.string p.2))) ?_
   clear hK K
   try simp only [Act.put, List.setIfInBounds_toArray, List.set_cons_zero, List.set_cons_succ])
  refine kF.done (by kernel_rfl) ?_
  have hb4 : Below W3.heap.size W3 ((u14.setCell ⟨bu14, 0, none⟩ (.string p.1)).setCell ⟨bu14, 1, none⟩ (.string p.2)) := ((hSu14.setCell (p := ⟨bu14, 0, none⟩) hBu14' (.string p.1)).setCell (p := ⟨bu14, 1, none⟩) hBu14' (.string p.2))
  have hx4 : ((u14.setCell ⟨bu14, 0, none⟩ (.string p.1)).setCell ⟨bu14, 1, none⟩ (.string p.2)).heap[bu14]? = some (.cells #[.string p.1, .string p.2] 24) := (heap_setCellS (heap_setCellS hxu14 _) _).trans rfl
  clear e0 e1 e2 e3 e4
  generalize (u14.setCell ⟨bu14, 0, none⟩ (.string p.1)).setCell ⟨bu14, 1, none⟩ (.string p.2) = W4 at hb4 hx4 ⊢
  have t0 := cell_of_row W4 bu14 0 _ _ _ hx4
  have t1 := cell_of_row W4 bu14 1 _ _ _ hx4
  have hbz4 := hb4.size
  have hzw4 : w.heap.size < W4.heap.size := by omega
  have hlb4 : b < W4.heap.size := by omega
  have a3 := (hb4.cell (p := ⟨w.heap.size, 3, none⟩) hzw3).trans z3
  have a4 := (hb4.cell (p := ⟨w.heap.size, 4, none⟩) hzw3).trans z4
  have a0 := (hb4.cell (p := ⟨b, 0, none⟩) hlb3).trans d0
  have hl14 : bu14 < W4.heap.size := (Array.getElem?_eq_some_iff.1 hx4).1
  clear hxu14 hBu14 hbu14 hSu14 z0 z2 z3 z4 d0 d1 p0 p1
  by_cases hd : p.2.size = 0
  · have hr : Hid (s.bent n at_ c = s.settled) := by unfold Hid Sto.bent; rw [hhit.out]; simp [hd]
    have e0 := str_empty hd
    have hfin := RefTo.over hbt.out (RefTo.same ⟨_, _, rfl, hin.out⟩ hb4) hsub.out
    replace hfin := Lib.hid hfin
    replace hd := Lib.hid hd
    replace hx4 := Lib.hid hx4
    go_wp2_with fail
    go_ret
    exact ⟨rfl, by rw [hr.out]; exact hfin.out⟩
  have e0 := str_some hd
  obtain ⟨i, hi, hie, hiv⟩ := rest_vals (n := at_) (m := p.2.size) (by omega) (by omega)
  have hr : Hid (s.bent n at_ c = ({ s with seen := putO s.seen (p.1, bentB p.2 at_ c) } : Sto).settled) := by unfold Hid Sto.bent; rw [hhit.out]; simp [hd]
  have hben : bentB p.2 at_ c = str ((bl p.2).take i ++ [UInt8.ofNat c.toNat] ++ (bl p.2).drop (i + 1)) := by unfold bentB; rw [hie, setU _ hi]
  have hds : p.2.size ≤ 65536 := hok.2
  have hmne2 : ((p.2.size : Int) == 0) = false := by rw [beq_eq_false_iff_ne]; omega
  have hi2 : i ≤ p.2.size := by omega
  have hi3 : i + 1 ≤ p.2.size := by omega
  have hi4 : (i : Int) ≤ (p.2.size : Int) := by omega
  have hi5 : (i : Int) + 1 ≤ (p.2.size : Int) := by omega
  have hw1 : Value.int .i64 (IntKind.i64.wrap ((i : Int) + 1)) = .int .i64 ((i : Int) + 1) := by rw [show IntKind.i64.wrap ((i : Int) + 1) = (i : Int) + 1 by rw [IntKind.wrap_i64]; omega]
  have hcw : Value.int .u8 (IntKind.u8.wrap c) = .int .u8 c := by
    rw [show IntKind.u8.wrap c = c by simp [IntKind.wrap, IntKind.bits, IntKind.signed]; omega]
  have hH := extU_head p.2 i
  have hT := extU_tail p.2 (i + 1)
  have hbll : (bl p.2).length = p.2.size := Array.length_toList
  obtain ⟨H, hHd⟩ : ∃ H, H = (bl p.2).take i := ⟨_, rfl⟩
  obtain ⟨T, hTd⟩ : ∃ T, T = (bl p.2).drop (i + 1) := ⟨_, rfl⟩
  have hHl : H.length ≤ 65536 := by rw [hHd, List.length_take]; omega
  have hTl : T.length ≤ 65536 := by rw [hTd, List.length_drop]; omega
  rw [← hHd] at hH hben
  rw [← hTd] at hT hben
  have hs1 := fun W => strU_add (l := H) (l' := [UInt8.ofNat c.toNat]) rfl (by simp; omega) W
  replace hHd := Lib.hid hHd
  replace hTd := Lib.hid hTd
  replace hbll := Lib.hid hbll
  replace hd := Lib.hid hd
  replace hie := Lib.hid hie
  replace hben := Lib.hid hben
  replace hok := Lib.hid hok
  go_upto_region 17 with fail
  trace "SEVENTEEN"
  replace hx4 := Lib.hid hx4
  have hi6 : ¬ ((i : Int) + 1 < 0) := by omega
  have hi7 : 0 ≤ (i : Int) + 1 := by omega
  have hs2 := fun W => strU_add (l := H ++ [UInt8.ofNat c.toNat]) (l' := T) rfl (by simp; omega) W
  have hu8 : Value.int .u8 c = .int .u8 ((UInt8.ofNat c.toNat).toNat : Nat) := ofNat_u8 (by omega) (by omega)
  have hrow : BytesAt (W4.alloc (.cells #[.int .u8 c] 5)) (W4.heap.size + 1) (some ⟨W4.heap.size, 0, none⟩) 1 [UInt8.ofNat c.toNat] := by
    rw [hu8]
    exact bytesAt_new W4 5 [UInt8.ofNat c.toNat] (by simp)
  have hrow2 : BytesAt (W4.alloc (.cells #[.int .u8 c] 5)).drew (W4.heap.size + 1) (some ⟨W4.heap.size, 0, none⟩) 1 [UInt8.ofNat c.toNat] := hrow
  have hcv := run_bytes_str (c := 1) hrow2
  clear hu8
  refine region_held_tail 16 (fun W : World => W.cell? ⟨bu14, 1, none⟩ = some (.string p.2) ∧ W.cell? ⟨w.heap.size, 4, none⟩ = some (.int .i64 c)) (by kernel_rfl) (by kernel_rfl) ?_
  have hHeld : (fun W : World => W.cell? ⟨bu14, 1, none⟩ = some (.string p.2) ∧ W.cell? ⟨w.heap.size, 4, none⟩ = some (.int .i64 c)) W4.drew := ⟨t1, a4⟩
  (refine HT.takeL (i := 0) (v := ?_) rfl (by kernel_rfl) (fun _ _ _ h => h) (Or.inl ⟨by rfl, ?_⟩) (by assumption) ?_
   rotate_left
   · (intro w hSw; (try dsimp only at hSw); go_simp; (try with_reducible rfl))
   try simp only [Act.put, List.setIfInBounds_toArray, List.set_cons_zero, List.set_cons_succ])
  (refine HT.takeL (i := 1) (v := ?_) rfl (by kernel_rfl) (fun _ _ _ h => h) (Or.inl ⟨by rfl, ?_⟩) (by assumption) ?_
   rotate_left
   · (intro w hSw; (try dsimp only at hSw); go_simp; (try with_reducible rfl))
   try simp only [Act.put, List.setIfInBounds_toArray, List.set_cons_zero, List.set_cons_succ])
  (refine HT.takeL (i := 2) (v := ?_) rfl (by kernel_rfl) (fun _ _ _ h => h) (Or.inl ⟨by rfl, ?_⟩) (by assumption) ?_
   rotate_left
   · (intro w hSw; (try dsimp only at hSw); go_simp; (try with_reducible rfl))
   try simp only [Act.put, List.setIfInBounds_toArray, List.set_cons_zero, List.set_cons_succ])
  (refine HT.takeL (i := 3) (v := .string (str H)) rfl (by kernel_rfl) (fun _ _ _ h => h) (Or.inl ⟨by rfl, ?_⟩) (by assumption) ?_
   · (intro w hSw; (try dsimp only at hSw); go_simp; (try rw [hH]))
   try simp only [Act.put, List.setIfInBounds_toArray, List.set_cons_zero, List.set_cons_succ])
  (refine HT.takeL (i := 4) (v := ?_) rfl (by kernel_rfl) (fun _ _ _ h => h) (Or.inl ⟨by rfl, ?_⟩) (by assumption) ?_
   rotate_left
   · (intro w hSw; (try dsimp only at hSw); go_simp; (try with_reducible rfl))
   try simp only [Act.put, List.setIfInBounds_toArray, List.set_cons_zero, List.set_cons_succ])
  (refine HT.takeL (i := 5) (v := ?_) rfl (by kernel_rfl) (fun _ _ _ h => h) (Or.inl ⟨by rfl, ?_⟩) (by assumption) ?_
   rotate_left
   · (intro w hSw; (try dsimp only at hSw); go_simp; (try with_reducible rfl))
   try simp only [Act.put, List.setIfInBounds_toArray, List.set_cons_zero, List.set_cons_succ])
  (refine HT.takeL (i := 6) (v := .int .u8 c) rfl (by kernel_rfl) (fun _ _ _ h => h) (Or.inl ⟨by rfl, ?_⟩) (by assumption) ?_
   · (intro w hSw; (try dsimp only at hSw); go_simp; (try rw [hcw]))
   try simp only [Act.put, List.setIfInBounds_toArray, List.set_cons_zero, List.set_cons_succ])
  (refine HT.takeL (i := 10) (v := ?_) rfl (by kernel_rfl) (fun _ _ _ h => h) (Or.inl ⟨by rfl, ?_⟩) (by assumption) ?_
   rotate_left
   · (intro w hSw; (try dsimp only at hSw); go_simp; (try with_reducible rfl))
   try simp only [Act.put, List.setIfInBounds_toArray, List.set_cons_zero, List.set_cons_succ])
  (refine HT.takeL (i := 11) (v := ?_) rfl (by kernel_rfl) (fun _ _ _ h => h) (Or.inl ⟨by rfl, ?_⟩) (by assumption) ?_
   rotate_left
   · (intro w hSw; (try dsimp only at hSw); go_simp; (try with_reducible rfl))
   try simp only [Act.put, List.setIfInBounds_toArray, List.set_cons_zero, List.set_cons_succ])
  (refine HT.takeL (i := 12) (v := ?_) rfl (by kernel_rfl) (fun _ _ _ h => h) (Or.inl ⟨by rfl, ?_⟩) (by assumption) ?_
   rotate_left
   · (intro w hSw; (try dsimp only at hSw); go_simp; (try with_reducible rfl))
   try simp only [Act.put, List.setIfInBounds_toArray, List.set_cons_zero, List.set_cons_succ])
  (refine HT.takeL (i := 13) (v := .int .i64 ((i : Int) + 1)) rfl (by kernel_rfl) (fun _ _ _ h => h) (Or.inl ⟨by rfl, ?_⟩) (by assumption) ?_
   · (intro w hSw; (try dsimp only at hSw); go_simp; (try rw [hw1]))
   try simp only [Act.put, List.setIfInBounds_toArray, List.set_cons_zero, List.set_cons_succ])
  (refine HT.takeL (i := 14) (v := .string (str T)) rfl (by kernel_rfl) (fun _ _ _ h => h) (Or.inl ⟨by rfl, ?_⟩) (by assumption) ?_
   · (intro w hSw; (try dsimp only at hSw); go_simp; (try rw [hT]))
   try simp only [Act.put, List.setIfInBounds_toArray, List.set_cons_zero, List.set_cons_succ])
  (refine HT.onlyL (i := 7) rfl (by kernel_rfl) (fun K hK => ?_)
   go_simp
   refine hK.out _ _ ?_ (fun hHeld => ?_)
   · (exact ⟨(World.cell?_alloc_lt _ _ _ (by simp; omega)).trans t1, (World.cell?_alloc_lt _ _ _ (by simp; omega)).trans a4⟩)
   clear hK K
   try simp only [Act.put, List.setIfInBounds_toArray, List.set_cons_zero, List.set_cons_succ])
  (refine HT.onlyL (i := 8) rfl (by kernel_rfl) (fun K hK => ?_)
   (go_simp; (try rw [hcv]); go_simp)
   refine hK.out _ _ ?_ (fun hHeld => ?_)
   · (exact ⟨(World.cell?_alloc_lt _ _ _ (by simp; omega)).trans t1, (World.cell?_alloc_lt _ _ _ (by simp; omega)).trans a4⟩)
   clear hK K
   try simp only [Act.put, List.setIfInBounds_toArray, List.set_cons_zero, List.set_cons_succ])
  (refine HT.takeL (i := 9) (v := .string (str (H ++ [UInt8.ofNat c.toNat]))) rfl (by kernel_rfl) (fun _ _ _ h => h) (Or.inl ⟨by rfl, ?_⟩) (by assumption) ?_
   · (intro w hSw; (try dsimp only at hSw); go_simp; (try rw [hs1]))
   try simp only [Act.put, List.setIfInBounds_toArray, List.set_cons_zero, List.set_cons_succ])
  (refine HT.takeL (i := 15) (v := .string (str (H ++ [UInt8.ofNat c.toNat] ++ T))) rfl (by kernel_rfl) (fun _ _ _ h => h) (Or.inl ⟨by rfl, ?_⟩) (by assumption) ?_
   · (intro w hSw; (try dsimp only at hSw); go_simp; (try rw [hs2]))
   try simp only [Act.put, List.setIfInBounds_toArray, List.set_cons_zero, List.set_cons_succ])
  refine HT.tail (by kernel_rfl) ?_
  simp only [List.drop_succ_cons, List.drop_zero]
  rw [← hben.out]
  obtain ⟨B9, hB9⟩ : ∃ B9, B9 = bentB p.2 at_ c := ⟨_, rfl⟩
  rw [← hB9] at hr ⊢
  replace hB9 := Lib.hid hB9
  have hx5 : (W4.alloc (.cells #[.int .u8 c] 5)).drew.heap[bu14]? = some (.cells #[.string p.1, .string p.2] 24) := (Go.Deep.blk_alloc_lt _ _ _ hl14).trans hx4.out
  have hb5 : Below W3.heap.size W3 (W4.alloc (.cells #[.int .u8 c] 5)).drew := (hb4.alloc hbz4 _).drew
  clear hcv hrow hrow2 hHeld t0 t1 a0 a3 a4
  generalize (W4.alloc (.cells #[.int .u8 c] 5)).drew = W5 at hx5 hb5 ⊢
  have e5 := cell_of_row _ bu14 1 _ _ _ hx5
  have e6 : W5.frozen? ⟨bu14, 1, none⟩ = false := by unfold World.frozen?; simp only [hx5]; simp
  have hx6 : (W5.setCell ⟨bu14, 1, none⟩ (.string B9)).heap[bu14]? = some (.cells #[.string p.1, .string B9] 24) := (heap_setCellS hx5 _).trans rfl
  have hb6 : Below W3.heap.size W3 (W5.setCell ⟨bu14, 1, none⟩ (.string B9)) := hb5.setCell (p := ⟨bu14, 1, none⟩) hBu14' _
  replace hx5 := Lib.hid hx5
  replace hx6 := Lib.hid hx6
  go_upto_region 18 with fail
  generalize W5.setCell ⟨bu14, 1, none⟩ (.string B9) = W6 at hx6 hb6 ⊢
  have hbx := hx.out.below hx.out.lt hb6
  obtain ⟨d0, _, _, _, _⟩ := hbx.cells
  have t0 := cell_of_row W6 bu14 0 _ _ _ hx6.out
  have t1 := cell_of_row W6 bu14 1 _ _ _ hx6.out
  have hl6 : bu14 < W6.heap.size := (Array.getElem?_eq_some_iff.1 hx6.out).1
  have hlb6 := hbx.lt
  have hD := Lib.hid (ref07_put (some ⟨b0, off, none⟩) m cc s.seen (p.1, B9) W6.drew (r1.out.to hb6.drew) hm9)
  clear e5 e6
  refine region_held_tail 7 (fun W : World => W.cell? ⟨b, 0, none⟩ = some (.slice (some ⟨b0, off, none⟩) m cc) ∧ W.cell? ⟨bu14, 0, none⟩ = some (.string p.1) ∧ W.cell? ⟨bu14, 1, none⟩ = some (.string B9)) (by kernel_rfl) (by kernel_rfl) ?_
  have hHeld : (fun W : World => W.cell? ⟨b, 0, none⟩ = some (.slice (some ⟨b0, off, none⟩) m cc) ∧ W.cell? ⟨bu14, 0, none⟩ = some (.string p.1) ∧ W.cell? ⟨bu14, 1, none⟩ = some (.string B9)) W6.drew := ⟨d0, t0, t1⟩
  (refine HT.takeL (i := 0) (v := ?_) rfl (by kernel_rfl) (fun _ _ _ h => h) (Or.inl ⟨by rfl, ?_⟩) (by assumption) ?_
   rotate_left
   · (intro w hSw; (try dsimp only at hSw); go_simp; (try with_reducible rfl))
   try simp only [Act.put, List.setIfInBounds_toArray, List.set_cons_zero, List.set_cons_succ])
  (refine HT.takeL (i := 1) (v := ?_) rfl (by kernel_rfl) (fun _ _ _ h => h) (Or.inl ⟨by rfl, ?_⟩) (by assumption) ?_
   rotate_left
   · (intro w hSw; (try dsimp only at hSw); go_simp; (try with_reducible rfl))
   try simp only [Act.put, List.setIfInBounds_toArray, List.set_cons_zero, List.set_cons_succ])
  (refine HT.takeL (i := 2) (v := ?_) rfl (by kernel_rfl) (fun _ _ _ h => h) (Or.inl ⟨by rfl, ?_⟩) (by assumption) ?_
   rotate_left
   · (intro w hSw; (try dsimp only at hSw); go_simp; (try with_reducible rfl))
   try simp only [Act.put, List.setIfInBounds_toArray, List.set_cons_zero, List.set_cons_succ])
  (refine HT.takeL (i := 3) (v := ?_) rfl (by kernel_rfl) (fun _ _ _ h => h) (Or.inl ⟨by rfl, ?_⟩) (by assumption) ?_
   rotate_left
   · (intro w hSw; (try dsimp only at hSw); go_simp; (try with_reducible rfl))
   try simp only [Act.put, List.setIfInBounds_toArray, List.set_cons_zero, List.set_cons_succ])
  (refine HT.takeL (i := 4) (v := ?_) rfl (by kernel_rfl) (fun _ _ _ h => h) (Or.inl ⟨by rfl, ?_⟩) (by assumption) ?_
   rotate_left
   · (intro w hSw; (try dsimp only at hSw); go_simp; (try with_reducible rfl))
   try simp only [Act.put, List.setIfInBounds_toArray, List.set_cons_zero, List.set_cons_succ])
  (refine HT.takeL (i := 5) (v := ?_) rfl (by kernel_rfl) (fun _ _ _ h => h) (Or.inl ⟨by rfl, ?_⟩) (by assumption) ?_
   rotate_left
   · (intro w hSw; (try dsimp only at hSw); go_simp; (try with_reducible rfl))
   try simp only [Act.put, List.setIfInBounds_toArray, List.set_cons_zero, List.set_cons_succ])
  (refine HT.onlyL (i := 6) rfl (by kernel_rfl) (fun K hK => ?_)
   (go_simp; (refine hD.out.mono ?_; rintro e w7 ⟨v7, rfl, o7, b7⟩))
   refine hK.out _ _ ?_ (fun hHeld => ?_)
   · (exact ⟨(b7.cell (p := ⟨b, 0, none⟩) hlb6).trans d0, (b7.cell (p := ⟨bu14, 0, none⟩) hl6).trans t0, (b7.cell (p := ⟨bu14, 1, none⟩) hl6).trans t1⟩)
   clear hK K
   try simp only [Act.put, List.setIfInBounds_toArray, List.set_cons_zero, List.set_cons_succ])
  refine HT.tail (by kernel_rfl) ?_
  simp only [List.drop_succ_cons, List.drop_zero]
  obtain ⟨A9, m9, c9, rfl⟩ : ∃ A m c, v7 = .slice A m c := by obtain ⟨A, c, e⟩ := Owns.form o7; exact ⟨A, _, c, e⟩
  have b8 : Below W3.heap.size W3 w7 := hb6.drew.trans (b7.mono hb6.size)
  have hx9 := hx.out.below hx.out.lt b8
  have q9 := hx9.frozen 0
  obtain ⟨e0', _, _, _, _⟩ := hx9.cells
  have hfin : RefTo b (b :: (G.ownBlock.toList ++ V.ownBlock.toList)) (s.bent n at_ c) w (w7.setCell ⟨b, 0, none⟩ (.slice A9 m9 c9)) := by
    rw [hr.out]
    exact RefTo.over hbt.out (RefTo.goodTo (s' := ({ s with seen := putO s.seen (p.1, B9) } : Sto).settled) hin.out (Owns.from o7 hb6.size) b8 rfl rfl rfl rfl) hsub.out
  replace hfin := Lib.hid hfin
  replace hx9 := Lib.hid hx9
  clear o7 hHeld d0 t0 t1
  go_wp2_with fail
  go_ret
  exact ⟨rfl, hfin.out⟩
end Go.Proofs.YtfkonpmnclknaaaGreat

/-
  The reference's Strike by any fault; what a store is goes on to be, whatever is done to it.
-/
namespace Go.Proofs.YtfkonpmnclknaaaGreat
open Go.RowKit

theorem coh_new : Coh Sto.new := rfl
theorem tried_coh {s : Sto} (h : Coh s) : Coh s.tried := by
  unfold Coh at *
  rw [tried_seen, tried_writes, tried_good, h]
theorem settled_coh (s : Sto) : Coh s.settled := rfl
theorem put_coh {s : Sto} (h : Coh s) (o : Ob) : Coh (s.put o).1 := by
  unfold Sto.put
  split
  · exact h
  · split
    · exact h
    · split
      · exact h
      · split
        · exact tried_coh h
        · show putO s.seen o = fullGo (s.writes ++ [⟨o.1, o.2, false⟩]) s.tried.good
          rw [fullGo_snoc, tried_good, ← h]
          rfl
theorem del_coh {s : Sto} (h : Coh s) (n : ByteArray) : Coh (s.del n).1 := by
  unfold Sto.del
  split
  · split
    · exact tried_coh h
    · show delO s.seen n = fullGo (s.writes ++ [⟨n, ⟨#[]⟩, true⟩]) s.tried.good
      rw [fullGo_snoc, tried_good, ← h]
      rfl
  · exact h
theorem sync_coh {s : Sto} (h : Coh s) : Coh s.sync.1 := by
  unfold Sto.sync
  split
  · exact h
  · exact settled_coh s
theorem crash_coh (s : Sto) (l : List Int) : Coh (s.crash l) := rfl
theorem strike_coh {s : Sto} (h : Coh s) (f : Flt) : Coh (s.strike f).1 := by
  unfold Sto.strike
  split
  · exact h
  · dsimp only
    repeat' split
    · exact settled_coh _
    · unfold Sto.lost
      split <;> exact settled_coh _
    · unfold Sto.bent
      split
      · exact settled_coh _
      · split <;> exact settled_coh _
    all_goals exact h
theorem StoAt.ok {w : World} {b N : Nat} {F : List Nat} {s : Sto} (h : StoAt w b F N s) (hc : Coh s) : StoOk N s := by
  obtain ⟨gm, sm, V, rfl, h⟩ := h
  exact { coh := hc, ng := h.ng, nw := h.nw, len := h.len, cap := h.cap, rf := h.rf, rf9 := h.rf9, rm9 := h.rm9, rm := h.rm }

theorem ref07_Strike (b : Nat) (F : List Nat) (N : Nat) (s : Sto) (hs : StoOk N s) (f : Flt) (w : World) (h : RefAt w b F s) :
    Calls Tryz.prog 56 #[.pointer (some ⟨b, 0, none⟩), f.agg] w fun e w' => e = .returned (.int .i64 (s.strike f).2) ∧ RefTo b F (s.strike f).1 w w' := by
  cases hb : f.bad
  · have hk : f.kind = 1 ∨ f.kind = 2 ∨ f.kind = 3 ∨ f.kind = 4 ∨ f.kind = 5 ∨ f.kind = 6 ∨ f.kind = 7 := by
      have h1 := hb
      unfold Flt.bad at h1
      simp only [Bool.or_eq_false_iff, decide_eq_false_iff_not] at h1
      omega
    obtain ⟨kind, store, n, at_, c⟩ := f
    dsimp only at hk
    unfold Sto.strike
    rw [if_neg (by rw [hb]; decide)]
    dsimp only
    rcases hk with rfl | rfl | rfl | rfl | rfl | rfl | rfl
    · exact ref_strike_wipe b F N s hs store n at_ c hb w h
    · exact ref_strike_lose b F N s hs store n at_ c hb w h
    · exact ref_strike_bend b F N s hs store n at_ c hb w h
    · exact ref_strike_down b F s store n at_ c hb w h
    · exact ref_strike_up b F s store n at_ c hb w h
    · exact ref_strike_refuse b F s store n at_ c hb w h
    · exact ref_strike_room b F s store n at_ c hb w h
  · unfold Sto.strike
    rw [if_pos hb]
    exact ref_strike_bad b F s f hb w h
end Go.Proofs.YtfkonpmnclknaaaGreat
