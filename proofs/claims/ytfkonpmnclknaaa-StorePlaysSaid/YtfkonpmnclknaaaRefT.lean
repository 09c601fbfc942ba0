/-
  The reference's Strike, but for Bend.
-/
import Derived.Test.YtfkonpmnclknaaaRefP
import Derived.Test.YtfkonpmnclknaaaStoN
import Derived.Test.YtfkonpmnclknaaaHeld
namespace Go.Proofs.Ytfkonpmnclknaaa
open Go.RowKit
attribute [local go_sem ↓] Go.wp_at_zero Go.wp_at_succ

set_option maxHeartbeats 4000000 in
set_option maxRecDepth 100000 in
theorem ref_strike_bad (b : Nat) (F : List Nat) (s : Sto) (f : Flt) (hb : f.bad = true) (w : World) (h : RefAt w b F s) :
    Calls Try.prog 57 #[.pointer (some ⟨b, 0, none⟩), f.agg] w fun e w' => e = .returned (.int .i64 1) ∧ RefTo b F s w w' := by
  have hsame := Lib.hid (RefTo.same h ((Below.refl _ w).alloc (Nat.le_refl _) f.box))
  clear h
  unfold Flt.box at hsame
  obtain ⟨kind, store, n, at_, c⟩ := f
  unfold Flt.agg
  dsimp only at hsame ⊢
  by_cases k1 : kind < 1
  · replace hb := Lib.hid hb
    go_enter Try.func57, Try.ntmps57
    go_wp2_with fail
    go_ret
    exact ⟨rfl, hsame.out⟩
  by_cases k2 : 7 < kind
  · replace hb := Lib.hid hb
    go_enter Try.func57, Try.ntmps57
    go_wp2_with fail
    go_ret
    exact ⟨rfl, hsame.out⟩
  by_cases k3 : n < 0
  · replace hb := Lib.hid hb
    go_enter Try.func57, Try.ntmps57
    go_wp2_with fail
    go_ret
    exact ⟨rfl, hsame.out⟩
  by_cases k4 : at_ < 0
  · replace hb := Lib.hid hb
    go_enter Try.func57, Try.ntmps57
    go_wp2_with fail
    go_ret
    exact ⟨rfl, hsame.out⟩
  by_cases k5 : c < 0
  · replace hb := Lib.hid hb
    go_enter Try.func57, Try.ntmps57
    go_wp2_with fail
    go_ret
    exact ⟨rfl, hsame.out⟩
  have k6 : 255 < c := by simp [Flt.bad, k1, k2, k3, k4, k5] at hb; omega
  replace hb := Lib.hid hb
  go_enter Try.func57, Try.ntmps57
  go_wp2_with fail
  go_ret
  exact ⟨rfl, hsame.out⟩

set_option maxHeartbeats 4000000 in
set_option maxRecDepth 100000 in
theorem ref_strike_down (b : Nat) (F : List Nat) (s : Sto) (store n at_ c : Int) (hb : (⟨4, store, n, at_, c⟩ : Flt).bad = false) (w : World) (h : RefAt w b F s) :
    Calls Try.prog 57 #[.pointer (some ⟨b, 0, none⟩), (⟨4, store, n, at_, c⟩ : Flt).agg] w fun e w' => e = .returned (.int .i64 0) ∧ RefTo b F ({ s with down := true } : Sto) w w' := by
  have hcs : ¬ n < 0 ∧ ¬ at_ < 0 ∧ ¬ c < 0 ∧ ¬ 255 < c := by simp [Flt.bad] at hb; omega
  obtain ⟨k3, k4, k5, k6⟩ := hcs
  obtain ⟨G, V, rfl, h⟩ := h
  have hA : Below w.heap.size w (w.alloc (.cells #[.int .u8 4, .int .i64 store, .int .i64 n, .int .i64 at_, .int .i64 c] 33)) := (Below.refl _ w).alloc (Nat.le_refl _) _
  have h1 := h.block fun i hi => hA.block i (h.lt i hi)
  have f1 := h1.box.frozen 2
  obtain ⟨c0, c1, c2, c3, c4⟩ := h1.box.cells
  have hto := (RefTo.set (h.set (s' := { s with down := true }) (h.box.set2 (.bool true)) rfl rfl)).trans fun F1 h1 => RefTo.same h1 ((Below.refl _ _).alloc (Nat.le_refl _) (.cells #[.int .u8 4, .int .i64 store, .int .i64 n, .int .i64 at_, .int .i64 c] 33))
  have hlb := h.box.lt
  replace hto := Lib.hid hto
  unfold Flt.agg
  dsimp only
  clear h h1 hb
  go_enter Try.func57, Try.ntmps57
  go_wp2_with fail
  go_ret
  exact ⟨rfl, hto.out⟩

set_option maxHeartbeats 4000000 in
set_option maxRecDepth 100000 in
theorem ref_strike_up (b : Nat) (F : List Nat) (s : Sto) (store n at_ c : Int) (hb : (⟨5, store, n, at_, c⟩ : Flt).bad = false) (w : World) (h : RefAt w b F s) :
    Calls Try.prog 57 #[.pointer (some ⟨b, 0, none⟩), (⟨5, store, n, at_, c⟩ : Flt).agg] w fun e w' => e = .returned (.int .i64 0) ∧ RefTo b F ({ s with down := false } : Sto) w w' := by
  have hcs : ¬ n < 0 ∧ ¬ at_ < 0 ∧ ¬ c < 0 ∧ ¬ 255 < c := by simp [Flt.bad] at hb; omega
  obtain ⟨k3, k4, k5, k6⟩ := hcs
  obtain ⟨G, V, rfl, h⟩ := h
  have hA : Below w.heap.size w (w.alloc (.cells #[.int .u8 5, .int .i64 store, .int .i64 n, .int .i64 at_, .int .i64 c] 33)) := (Below.refl _ w).alloc (Nat.le_refl _) _
  have h1 := h.block fun i hi => hA.block i (h.lt i hi)
  have f1 := h1.box.frozen 2
  obtain ⟨c0, c1, c2, c3, c4⟩ := h1.box.cells
  have hto := (RefTo.set (h.set (s' := { s with down := false }) (h.box.set2 (.bool false)) rfl rfl)).trans fun F1 h1 => RefTo.same h1 ((Below.refl _ _).alloc (Nat.le_refl _) (.cells #[.int .u8 5, .int .i64 store, .int .i64 n, .int .i64 at_, .int .i64 c] 33))
  have hlb := h.box.lt
  replace hto := Lib.hid hto
  unfold Flt.agg
  dsimp only
  clear h h1 hb
  go_enter Try.func57, Try.ntmps57
  go_wp2_with fail
  go_ret
  exact ⟨rfl, hto.out⟩

set_option maxHeartbeats 4000000 in
set_option maxRecDepth 100000 in
theorem ref_strike_refuse (b : Nat) (F : List Nat) (s : Sto) (store n at_ c : Int) (hb : (⟨6, store, n, at_, c⟩ : Flt).bad = false) (w : World) (h : RefAt w b F s) :
    Calls Try.prog 57 #[.pointer (some ⟨b, 0, none⟩), (⟨6, store, n, at_, c⟩ : Flt).agg] w fun e w' => e = .returned (.int .i64 0) ∧ RefTo b F ({ s with refuse := n } : Sto) w w' := by
  have hcs : ¬ n < 0 ∧ ¬ at_ < 0 ∧ ¬ c < 0 ∧ ¬ 255 < c := by simp [Flt.bad] at hb; omega
  obtain ⟨k3, k4, k5, k6⟩ := hcs
  obtain ⟨G, V, rfl, h⟩ := h
  have hA : Below w.heap.size w (w.alloc (.cells #[.int .u8 6, .int .i64 store, .int .i64 n, .int .i64 at_, .int .i64 c] 33)) := (Below.refl _ w).alloc (Nat.le_refl _) _
  have h1 := h.block fun i hi => hA.block i (h.lt i hi)
  have f1 := h1.box.frozen 3
  obtain ⟨c0, c1, c2, c3, c4⟩ := h1.box.cells
  have hto := (RefTo.set (h.set (s' := { s with refuse := n }) (h.box.set3 (.int .i64 n)) rfl rfl)).trans fun F1 h1 => RefTo.same h1 ((Below.refl _ _).alloc (Nat.le_refl _) (.cells #[.int .u8 6, .int .i64 store, .int .i64 n, .int .i64 at_, .int .i64 c] 33))
  have hlb := h.box.lt
  replace hto := Lib.hid hto
  unfold Flt.agg
  dsimp only
  clear h h1 hb
  go_enter Try.func57, Try.ntmps57
  go_wp2_with fail
  go_ret
  exact ⟨rfl, hto.out⟩

set_option maxHeartbeats 4000000 in
set_option maxRecDepth 100000 in
theorem ref_strike_room (b : Nat) (F : List Nat) (s : Sto) (store n at_ c : Int) (hb : (⟨7, store, n, at_, c⟩ : Flt).bad = false) (w : World) (h : RefAt w b F s) :
    Calls Try.prog 57 #[.pointer (some ⟨b, 0, none⟩), (⟨7, store, n, at_, c⟩ : Flt).agg] w fun e w' => e = .returned (.int .i64 0) ∧ RefTo b F ({ s with room := n } : Sto) w w' := by
  have hcs : ¬ n < 0 ∧ ¬ at_ < 0 ∧ ¬ c < 0 ∧ ¬ 255 < c := by simp [Flt.bad] at hb; omega
  obtain ⟨k3, k4, k5, k6⟩ := hcs
  obtain ⟨G, V, rfl, h⟩ := h
  have hA : Below w.heap.size w (w.alloc (.cells #[.int .u8 7, .int .i64 store, .int .i64 n, .int .i64 at_, .int .i64 c] 33)) := (Below.refl _ w).alloc (Nat.le_refl _) _
  have h1 := h.block fun i hi => hA.block i (h.lt i hi)
  have f1 := h1.box.frozen 4
  obtain ⟨c0, c1, c2, c3, c4⟩ := h1.box.cells
  have hto := (RefTo.set (h.set (s' := { s with room := n }) (h.box.set4 (.int .i64 n)) rfl rfl)).trans fun F1 h1 => RefTo.same h1 ((Below.refl _ _).alloc (Nat.le_refl _) (.cells #[.int .u8 7, .int .i64 store, .int .i64 n, .int .i64 at_, .int .i64 c] 33))
  have hlb := h.box.lt
  replace hto := Lib.hid hto
  unfold Flt.agg
  dsimp only
  clear h h1 hb
  go_enter Try.func57, Try.ntmps57
  go_wp2_with fail
  go_ret
  exact ⟨rfl, hto.out⟩

set_option maxHeartbeats 4000000 in
set_option maxRecDepth 100000 in
theorem ref_strike_wipe (b : Nat) (F : List Nat) (N : Nat) (s : Sto) (hs : StoOk N s) (store n at_ c : Int) (hb : (⟨1, store, n, at_, c⟩ : Flt).bad = false) (w : World) (h : RefAt w b F s) :
    Calls Try.prog 57 #[.pointer (some ⟨b, 0, none⟩), (⟨1, store, n, at_, c⟩ : Flt).agg] w fun e w' => e = .returned (.int .i64 0) ∧ RefTo b F (({ s with seen := [] } : Sto).settled) w w' := by
  have hcs : ¬ n < 0 ∧ ¬ at_ < 0 ∧ ¬ c < 0 ∧ ¬ 255 < c := by simp [Flt.bad] at hb; omega
  obtain ⟨k3, k4, k5, k6⟩ := hcs
  have hlen : s.seen.length ≤ 1000000 := Nat.le_trans hs.seenLen hs.cap
  obtain ⟨G, V, rfl, h⟩ := h
  have hA : Below w.heap.size w (w.alloc (.cells #[.int .u8 1, .int .i64 store, .int .i64 n, .int .i64 at_, .int .i64 c] 33)) := (Below.refl _ w).alloc (Nat.le_refl _) _
  have h1 := h.block fun i hi => hA.block i (h.lt i hi)
  have hz0 : (w.alloc (.cells #[.int .u8 1, .int .i64 store, .int .i64 n, .int .i64 at_, .int .i64 c] 33)).heap.size = w.heap.size + 1 := by simp
  have x0 := newCell w #[.int .u8 1, .int .i64 store, .int .i64 n, .int .i64 at_, .int .i64 c] 33 (0, 0) 0
  have x2 := newCell w #[.int .u8 1, .int .i64 store, .int .i64 n, .int .i64 at_, .int .i64 c] 33 (0, 0) 2
  have x3 := newCell w #[.int .u8 1, .int .i64 store, .int .i64 n, .int .i64 at_, .int .i64 c] 33 (0, 0) 3
  have x4 := newCell w #[.int .u8 1, .int .i64 store, .int .i64 n, .int .i64 at_, .int .i64 c] 33 (0, 0) 4
  have hlb := h.box.lt
  unfold Flt.agg
  dsimp only
  clear h hb
  go_enter Try.func57, Try.ntmps57
  go_upto_region 3 with fail
  generalize (w.alloc (.cells #[.int .u8 1, .int .i64 store, .int .i64 n, .int .i64 at_, .int .i64 c] 33)) = w0 at hA h1 hz0 x0 x2 x3 x4 ⊢
  have hO := ref07_Objects b _ N s hs w0 ⟨G, V, rfl, h1⟩
  clear hs
  replace h1 := Lib.hid h1
  go_wp2_with fail
  refine hO.mono ?_
  rintro e w1 ⟨v, rfl, o1, b1⟩
  obtain ⟨A, m, cc, rfl⟩ : ∃ A m c, v = .slice A m c := by obtain ⟨A, c, e⟩ := Owns.form o1; exact ⟨A, _, c, e⟩
  have hzw1 := b1.size
  have y0 := (b1.cell (p := ⟨w.heap.size, 0, none⟩) (by simp; omega)).trans x0
  have y2 := (b1.cell (p := ⟨w.heap.size, 2, none⟩) (by simp; omega)).trans x2
  have y3 := (b1.cell (p := ⟨w.heap.size, 3, none⟩) (by simp; omega)).trans x3
  have y4 := (b1.cell (p := ⟨w.heap.size, 4, none⟩) (by simp; omega)).trans x4
  have hx := h1.out.box.below h1.out.box.lt b1
  have f0 := hx.frozen 0
  have hx2 := hx.set0 (.slice A m cc)
  have f1 := hx2.frozen 1
  have hx3 := hx2.set1 (.slice none 0 0)
  obtain ⟨d0, d1, _, _, _⟩ := hx.cells
  obtain ⟨g0, g1, _, _, _⟩ := hx2.cells
  have hin : RefIn ((w1.setCell ⟨b, 0, none⟩ (.slice A m cc)).setCell ⟨b, 1, none⟩ (.slice none 0 0)) b (.slice A m cc) (.slice none 0 0) s.settled := (h1.out.goodTo (s' := { s with good := s.seen }) o1 b1 rfl rfl rfl rfl).writesTo rfl rfl rfl rfl rfl
  have hto : RefTo b (b :: (G.ownBlock.toList ++ V.ownBlock.toList)) s.settled w ((w1.setCell ⟨b, 0, none⟩ (.slice A m cc)).setCell ⟨b, 1, none⟩ (.slice none 0 0)) := by
    refine RefTo.ahead hA ((RefTo.goodTo (s' := { s with good := s.seen }) h1.out o1 b1 rfl rfl rfl rfl).trans fun F1 h1 => ?_)
    obtain ⟨G1, V1, rfl, h1⟩ := h1
    exact RefTo.writesTo h1 rfl rfl rfl rfl rfl
  have hsub : ∀ i ∈ b :: ((Value.slice A m cc).ownBlock.toList ++ (Value.slice none 0 0).ownBlock.toList), i ∈ b :: (G.ownBlock.toList ++ V.ownBlock.toList) ∨ w.heap.size ≤ i := fun i hi => by
    simp only [List.mem_cons, List.mem_append, Option.mem_toList] at hi ⊢
    rcases hi with rfl | hi | hi
    · exact .inl (.inl rfl)
    · exact .inr (Nat.le_trans hA.size (o1.within hi).1)
    · cases hi
  have hbt : But (b :: (G.ownBlock.toList ++ V.ownBlock.toList)) w ((w1.setCell ⟨b, 0, none⟩ (.slice A m cc)).setCell ⟨b, 1, none⟩ (.slice none 0 0)) := by
    obtain ⟨_, _, hb, _⟩ := hto
    exact hb
  have r1 := Owns.row (k := 2) (fun x => objE.len x) hin.good
  clear o1 hO d1 x0 x2 x3 x4
  have hwb : w.heap.size ≠ b := by omega
  replace hin := Lib.hid hin
  replace hto := Lib.hid hto
  replace hsub := Lib.hid hsub
  replace hbt := Lib.hid hbt
  replace hx := Lib.hid hx
  replace hx2 := Lib.hid hx2
  replace hx3 := Lib.hid hx3
  replace r1 := Lib.hid r1
  have v0 := (World.cell?_of_block (a := ⟨w.heap.size, 0, none⟩) (Go.Deep.blk_setCell_other w1 ⟨b, 0, none⟩ (.slice A m cc) _ hwb)).trans y0
  have z0 := (World.cell?_of_block (a := ⟨w.heap.size, 0, none⟩) (Go.Deep.blk_setCell_other _ ⟨b, 1, none⟩ (.slice none 0 0) _ hwb)).trans v0
  have z2 := (World.cell?_of_block (a := ⟨w.heap.size, 2, none⟩) ((Go.Deep.blk_setCell_other _ ⟨b, 1, none⟩ (.slice none 0 0) _ hwb).trans (Go.Deep.blk_setCell_other w1 ⟨b, 0, none⟩ (.slice A m cc) _ hwb))).trans y2
  have z3 := (World.cell?_of_block (a := ⟨w.heap.size, 3, none⟩) ((Go.Deep.blk_setCell_other _ ⟨b, 1, none⟩ (.slice none 0 0) _ hwb).trans (Go.Deep.blk_setCell_other w1 ⟨b, 0, none⟩ (.slice A m cc) _ hwb))).trans y3
  have z4 := (World.cell?_of_block (a := ⟨w.heap.size, 4, none⟩) ((Go.Deep.blk_setCell_other _ ⟨b, 1, none⟩ (.slice none 0 0) _ hwb).trans (Go.Deep.blk_setCell_other w1 ⟨b, 0, none⟩ (.slice A m cc) _ hwb))).trans y4
  have hzw3 : w.heap.size < ((w1.setCell ⟨b, 0, none⟩ (.slice A m cc)).setCell ⟨b, 1, none⟩ (.slice none 0 0)).heap.size := by simp; omega
  clear y2 y3 y4
  go_upto_region 6 with fail
  clear y0 v0 d0 g0 g1 f0 f1
  generalize (w1.setCell ⟨b, 0, none⟩ (.slice A m cc)).setCell ⟨b, 1, none⟩ (.slice none 0 0) = W3 at hx3 hin hto hbt r1 z0 z2 z3 z4 hzw3 ⊢
  have hx := hx3.out
  have q0 := hx.frozen 0
  obtain ⟨d0, d1, _, _, _⟩ := hx.cells
  have hfin : RefTo b (b :: (G.ownBlock.toList ++ V.ownBlock.toList)) ({ s with seen := [] } : Sto).settled w (W3.setCell ⟨b, 0, none⟩ (.slice none 0 0)) := RefTo.over hbt.out (RefTo.goodTo (s' := ({ s with seen := [] } : Sto).settled) hin.out Owns.nil_ (Below.refl _ _) rfl rfl rfl rfl) hsub.out
  replace hfin := Lib.hid hfin
  replace hx := Lib.hid hx
  go_wp2_with fail
  go_ret
  exact ⟨rfl, hfin.out⟩

set_option maxHeartbeats 4000000 in
set_option maxRecDepth 100000 in
theorem ref_strike_lose (b : Nat) (F : List Nat) (N : Nat) (s : Sto) (hs : StoOk N s) (store n at_ c : Int) (hb : (⟨2, store, n, at_, c⟩ : Flt).bad = false) (w : World) (h : RefAt w b F s) :
    Calls Try.prog 57 #[.pointer (some ⟨b, 0, none⟩), (⟨2, store, n, at_, c⟩ : Flt).agg] w fun e w' => e = .returned (.int .i64 0) ∧ RefTo b F (s.lost n) w w' := by
  have hcs : ¬ n < 0 ∧ ¬ at_ < 0 ∧ ¬ c < 0 ∧ ¬ 255 < c := by simp [Flt.bad] at hb; omega
  obtain ⟨k3, k4, k5, k6⟩ := hcs
  have hlen : s.seen.length ≤ 1000000 := Nat.le_trans hs.seenLen hs.cap
  obtain ⟨G, V, rfl, h⟩ := h
  have hA : Below w.heap.size w (w.alloc (.cells #[.int .u8 2, .int .i64 store, .int .i64 n, .int .i64 at_, .int .i64 c] 33)) := (Below.refl _ w).alloc (Nat.le_refl _) _
  have h1 := h.block fun i hi => hA.block i (h.lt i hi)
  have hz0 : (w.alloc (.cells #[.int .u8 2, .int .i64 store, .int .i64 n, .int .i64 at_, .int .i64 c] 33)).heap.size = w.heap.size + 1 := by simp
  have x0 := newCell w #[.int .u8 2, .int .i64 store, .int .i64 n, .int .i64 at_, .int .i64 c] 33 (0, 0) 0
  have x2 := newCell w #[.int .u8 2, .int .i64 store, .int .i64 n, .int .i64 at_, .int .i64 c] 33 (0, 0) 2
  have x3 := newCell w #[.int .u8 2, .int .i64 store, .int .i64 n, .int .i64 at_, .int .i64 c] 33 (0, 0) 3
  have x4 := newCell w #[.int .u8 2, .int .i64 store, .int .i64 n, .int .i64 at_, .int .i64 c] 33 (0, 0) 4
  have hlb := h.box.lt
  unfold Flt.agg
  dsimp only
  clear h hb
  go_enter Try.func57, Try.ntmps57
  go_upto_region 3 with fail
  generalize (w.alloc (.cells #[.int .u8 2, .int .i64 store, .int .i64 n, .int .i64 at_, .int .i64 c] 33)) = w0 at hA h1 hz0 x0 x2 x3 x4 ⊢
  have hO := ref07_Objects b _ N s hs w0 ⟨G, V, rfl, h1⟩
  clear hs
  replace h1 := Lib.hid h1
  go_wp2_with fail
  refine hO.mono ?_
  rintro e w1 ⟨v, rfl, o1, b1⟩
  obtain ⟨A, m, cc, rfl⟩ : ∃ A m c, v = .slice A m c := by obtain ⟨A, c, e⟩ := Owns.form o1; exact ⟨A, _, c, e⟩
  have hzw1 := b1.size
  have y0 := (b1.cell (p := ⟨w.heap.size, 0, none⟩) (by simp; omega)).trans x0
  have y2 := (b1.cell (p := ⟨w.heap.size, 2, none⟩) (by simp; omega)).trans x2
  have y3 := (b1.cell (p := ⟨w.heap.size, 3, none⟩) (by simp; omega)).trans x3
  have y4 := (b1.cell (p := ⟨w.heap.size, 4, none⟩) (by simp; omega)).trans x4
  have hx := h1.out.box.below h1.out.box.lt b1
  have f0 := hx.frozen 0
  have hx2 := hx.set0 (.slice A m cc)
  have f1 := hx2.frozen 1
  have hx3 := hx2.set1 (.slice none 0 0)
  obtain ⟨d0, d1, _, _, _⟩ := hx.cells
  obtain ⟨g0, g1, _, _, _⟩ := hx2.cells
  have hin : RefIn ((w1.setCell ⟨b, 0, none⟩ (.slice A m cc)).setCell ⟨b, 1, none⟩ (.slice none 0 0)) b (.slice A m cc) (.slice none 0 0) s.settled := (h1.out.goodTo (s' := { s with good := s.seen }) o1 b1 rfl rfl rfl rfl).writesTo rfl rfl rfl rfl rfl
  have hto : RefTo b (b :: (G.ownBlock.toList ++ V.ownBlock.toList)) s.settled w ((w1.setCell ⟨b, 0, none⟩ (.slice A m cc)).setCell ⟨b, 1, none⟩ (.slice none 0 0)) := by
    refine RefTo.ahead hA ((RefTo.goodTo (s' := { s with good := s.seen }) h1.out o1 b1 rfl rfl rfl rfl).trans fun F1 h1 => ?_)
    obtain ⟨G1, V1, rfl, h1⟩ := h1
    exact RefTo.writesTo h1 rfl rfl rfl rfl rfl
  have hsub : ∀ i ∈ b :: ((Value.slice A m cc).ownBlock.toList ++ (Value.slice none 0 0).ownBlock.toList), i ∈ b :: (G.ownBlock.toList ++ V.ownBlock.toList) ∨ w.heap.size ≤ i := fun i hi => by
    simp only [List.mem_cons, List.mem_append, Option.mem_toList] at hi ⊢
    rcases hi with rfl | hi | hi
    · exact .inl (.inl rfl)
    · exact .inr (Nat.le_trans hA.size (o1.within hi).1)
    · cases hi
  have hbt : But (b :: (G.ownBlock.toList ++ V.ownBlock.toList)) w ((w1.setCell ⟨b, 0, none⟩ (.slice A m cc)).setCell ⟨b, 1, none⟩ (.slice none 0 0)) := by
    obtain ⟨_, _, hb, _⟩ := hto
    exact hb
  have r1 := Owns.row (k := 2) (fun x => objE.len x) hin.good
  clear o1 hO d1 x0 x2 x3 x4
  have hwb : w.heap.size ≠ b := by omega
  replace hin := Lib.hid hin
  replace hto := Lib.hid hto
  replace hsub := Lib.hid hsub
  replace hbt := Lib.hid hbt
  replace hx := Lib.hid hx
  replace hx2 := Lib.hid hx2
  replace hx3 := Lib.hid hx3
  replace r1 := Lib.hid r1
  have v0 := (World.cell?_of_block (a := ⟨w.heap.size, 0, none⟩) (Go.Deep.blk_setCell_other w1 ⟨b, 0, none⟩ (.slice A m cc) _ hwb)).trans y0
  have z0 := (World.cell?_of_block (a := ⟨w.heap.size, 0, none⟩) (Go.Deep.blk_setCell_other _ ⟨b, 1, none⟩ (.slice none 0 0) _ hwb)).trans v0
  have z2 := (World.cell?_of_block (a := ⟨w.heap.size, 2, none⟩) ((Go.Deep.blk_setCell_other _ ⟨b, 1, none⟩ (.slice none 0 0) _ hwb).trans (Go.Deep.blk_setCell_other w1 ⟨b, 0, none⟩ (.slice A m cc) _ hwb))).trans y2
  have z3 := (World.cell?_of_block (a := ⟨w.heap.size, 3, none⟩) ((Go.Deep.blk_setCell_other _ ⟨b, 1, none⟩ (.slice none 0 0) _ hwb).trans (Go.Deep.blk_setCell_other w1 ⟨b, 0, none⟩ (.slice A m cc) _ hwb))).trans y3
  have z4 := (World.cell?_of_block (a := ⟨w.heap.size, 4, none⟩) ((Go.Deep.blk_setCell_other _ ⟨b, 1, none⟩ (.slice none 0 0) _ hwb).trans (Go.Deep.blk_setCell_other w1 ⟨b, 0, none⟩ (.slice A m cc) _ hwb))).trans y4
  have hzw3 : w.heap.size < ((w1.setCell ⟨b, 0, none⟩ (.slice A m cc)).setCell ⟨b, 1, none⟩ (.slice none 0 0)).heap.size := by simp; omega
  clear y2 y3 y4
  go_upto_region 6 with fail
  clear y0 v0 d0 g0 g1 f0 f1
  generalize (w1.setCell ⟨b, 0, none⟩ (.slice A m cc)).setCell ⟨b, 1, none⟩ (.slice none 0 0) = W3 at hx3 hin hto hbt r1 z0 z2 z3 z4 hzw3 ⊢
  have hx := hx3.out
  have q0 := hx.frozen 0
  obtain ⟨d0, d1, _, _, _⟩ := hx.cells
  have hsl : s.seen.length = m := r1.out.1
  by_cases hm0 : m = 0
  · subst hm0
    have hr : Hid (s.lost n = s.settled) := by
      unfold Hid Sto.lost Sto.hit
      rw [List.eq_nil_of_length_eq_zero hsl]
      rfl
    replace hx := Lib.hid hx
    replace hsl := Lib.hid hsl
    go_wp2_with fail
    go_ret
    exact ⟨rfl, by rw [hr.out]; exact hto.out⟩
  obtain ⟨q, hq, hqe, hqv⟩ := rest_vals (n := n) (m := m) (by omega) (by omega)
  have hm1 : (0 : Int) < (m : Int) := by omega
  have hm2 : 0 < m := by omega
  go_upto_region 11 with fail
  obtain ⟨b0, off, p, rfl, hb0, hp, p0, p1⟩ := r1.out.ob hq
  have hr : Hid (s.lost n = ({ s with seen := delO s.seen p.1 } : Sto).settled) := by
    unfold Hid Sto.lost Sto.hit
    rw [hsl, hqe, show s.seen[q]? = some p from hp]
  have hmne : ((m : Int) == 0) = false := by simp; omega
  have hqm : (q : Int) < (m : Int) := by omega
  have hlb3 := hx.lt
  have hD := ref07_drop (some ⟨b0, off, none⟩) m cc s.seen p.1 W3.drew r1.out (by omega)
  replace hp := Lib.hid hp
  replace hqe := Lib.hid hqe
  replace hsl := Lib.hid hsl
  replace hx := Lib.hid hx
  replace hD := Lib.hid hD
  refine region_held_tail 21 (fun W : World => W.cell? ⟨b, 0, none⟩ = some (.slice (some ⟨b0, off, none⟩) m cc) ∧ W.cell? ⟨w.heap.size, 2, none⟩ = some (.int .i64 n) ∧ W.cell? ⟨b0, off + q * 2, none⟩ = some (.string p.1)) (by kernel_rfl) (by kernel_rfl) ?_
  have hHeld : (fun W : World => W.cell? ⟨b, 0, none⟩ = some (.slice (some ⟨b0, off, none⟩) m cc) ∧ W.cell? ⟨w.heap.size, 2, none⟩ = some (.int .i64 n) ∧ W.cell? ⟨b0, off + q * 2, none⟩ = some (.string p.1)) W3.drew := ⟨d0, z2, p0⟩
  (refine HT.takeL (i := 0) (v := ?_) rfl (by kernel_rfl) (fun _ _ _ h => h) (Or.inl ⟨by rfl, ?_⟩) (by assumption) ?_
   rotate_left
   · (intro w hSw; (try dsimp only at hSw); go_simp; (try with_reducible rfl))
   try simp only [Act.put, List.setIfInBounds_toArray, List.set_cons_zero, List.set_cons_succ])
  (refine HT.takeL (i := 1) (v := ?_) rfl (by kernel_rfl) (fun _ _ _ h => h) (Or.inl ⟨by rfl, ?_⟩) (by assumption) ?_
   rotate_left
   · (intro w hSw; (try dsimp only at hSw); go_simp; (try with_reducible rfl))
   try simp only [Act.put, List.setIfInBounds_toArray, List.set_cons_zero, List.set_cons_succ])
  (refine HT.takeL (i := 2) (v := ?_) rfl (by kernel_rfl) (fun _ _ _ h => h) (Or.inl ⟨by rfl, ?_⟩) (by assumption) ?_
   rotate_left
   · (intro w hSw; (try dsimp only at hSw); go_simp; (try with_reducible rfl))
   try simp only [Act.put, List.setIfInBounds_toArray, List.set_cons_zero, List.set_cons_succ])
  (refine HT.takeL (i := 3) (v := ?_) rfl (by kernel_rfl) (fun _ _ _ h => h) (Or.inl ⟨by rfl, ?_⟩) (by assumption) ?_
   rotate_left
   · (intro w hSw; (try dsimp only at hSw); go_simp; (try with_reducible rfl))
   try simp only [Act.put, List.setIfInBounds_toArray, List.set_cons_zero, List.set_cons_succ])
  (refine HT.takeL (i := 4) (v := ?_) rfl (by kernel_rfl) (fun _ _ _ h => h) (Or.inl ⟨by rfl, ?_⟩) (by assumption) ?_
   rotate_left
   · (intro w hSw; (try dsimp only at hSw); go_simp; (try with_reducible rfl))
   try simp only [Act.put, List.setIfInBounds_toArray, List.set_cons_zero, List.set_cons_succ])
  (refine HT.takeL (i := 5) (v := ?_) rfl (by kernel_rfl) (fun _ _ _ h => h) (Or.inl ⟨by rfl, ?_⟩) (by assumption) ?_
   rotate_left
   · (intro w hSw; (try dsimp only at hSw); go_simp; (try with_reducible rfl))
   try simp only [Act.put, List.setIfInBounds_toArray, List.set_cons_zero, List.set_cons_succ])
  (refine HT.takeL (i := 6) (v := ?_) rfl (by kernel_rfl) (fun _ _ _ h => h) (Or.inl ⟨by rfl, ?_⟩) (by assumption) ?_
   rotate_left
   · (intro w hSw; (try dsimp only at hSw); go_simp; (try with_reducible rfl))
   try simp only [Act.put, List.setIfInBounds_toArray, List.set_cons_zero, List.set_cons_succ])
  (refine HT.takeL (i := 7) (v := ?_) rfl (by kernel_rfl) (fun _ _ _ h => h) (Or.inl ⟨by rfl, ?_⟩) (by assumption) ?_
   rotate_left
   · (intro w hSw; (try dsimp only at hSw); go_simp; (try with_reducible rfl))
   try simp only [Act.put, List.setIfInBounds_toArray, List.set_cons_zero, List.set_cons_succ])
  (refine HT.takeL (i := 8) (v := ?_) rfl (by kernel_rfl) (fun _ _ _ h => h) (Or.inl ⟨by rfl, ?_⟩) (by assumption) ?_
   rotate_left
   · (intro w hSw; (try dsimp only at hSw); go_simp; (try with_reducible rfl))
   try simp only [Act.put, List.setIfInBounds_toArray, List.set_cons_zero, List.set_cons_succ])
  (refine HT.takeL (i := 9) (v := ?_) rfl (by kernel_rfl) (fun _ _ _ h => h) (Or.inl ⟨by rfl, ?_⟩) (by assumption) ?_
   rotate_left
   · (intro w hSw; (try dsimp only at hSw); go_simp; (try with_reducible rfl))
   try simp only [Act.put, List.setIfInBounds_toArray, List.set_cons_zero, List.set_cons_succ])
  (refine HT.takeL (i := 10) (v := ?_) rfl (by kernel_rfl) (fun _ _ _ h => h) (Or.inl ⟨by rfl, ?_⟩) (by assumption) ?_
   rotate_left
   · (intro w hSw; (try dsimp only at hSw); go_simp; (try with_reducible rfl))
   try simp only [Act.put, List.setIfInBounds_toArray, List.set_cons_zero, List.set_cons_succ])
  (refine HT.takeL (i := 11) (v := ?_) rfl (by kernel_rfl) (fun _ _ _ h => h) (Or.inl ⟨by rfl, ?_⟩) (by assumption) ?_
   rotate_left
   · (intro w hSw; (try dsimp only at hSw); go_simp; (try with_reducible rfl))
   try simp only [Act.put, List.setIfInBounds_toArray, List.set_cons_zero, List.set_cons_succ])
  (refine HT.takeL (i := 12) (v := ?_) rfl (by kernel_rfl) (fun _ _ _ h => h) (Or.inl ⟨by rfl, ?_⟩) (by assumption) ?_
   rotate_left
   · (intro w hSw; (try dsimp only at hSw); go_simp; (try with_reducible rfl))
   try simp only [Act.put, List.setIfInBounds_toArray, List.set_cons_zero, List.set_cons_succ])
  (refine HT.takeL (i := 13) (v := ?_) rfl (by kernel_rfl) (fun _ _ _ h => h) (Or.inl ⟨by rfl, ?_⟩) (by assumption) ?_
   rotate_left
   · (intro w hSw; (try dsimp only at hSw); go_simp; (try with_reducible rfl))
   try simp only [Act.put, List.setIfInBounds_toArray, List.set_cons_zero, List.set_cons_succ])
  (refine HT.takeL (i := 14) (v := ?_) rfl (by kernel_rfl) (fun _ _ _ h => h) (Or.inl ⟨by rfl, ?_⟩) (by assumption) ?_
   rotate_left
   · (intro w hSw; (try dsimp only at hSw); go_simp; (try with_reducible rfl))
   try simp only [Act.put, List.setIfInBounds_toArray, List.set_cons_zero, List.set_cons_succ])
  (refine HT.takeL (i := 15) (v := ?_) rfl (by kernel_rfl) (fun _ _ _ h => h) (Or.inl ⟨by rfl, ?_⟩) (by assumption) ?_
   rotate_left
   · (intro w hSw; (try dsimp only at hSw); go_simp; (try with_reducible rfl))
   try simp only [Act.put, List.setIfInBounds_toArray, List.set_cons_zero, List.set_cons_succ])
  (refine HT.takeL (i := 16) (v := ?_) rfl (by kernel_rfl) (fun _ _ _ h => h) (Or.inl ⟨by rfl, ?_⟩) (by assumption) ?_
   rotate_left
   · (intro w hSw; (try dsimp only at hSw); go_simp; (try with_reducible rfl))
   try simp only [Act.put, List.setIfInBounds_toArray, List.set_cons_zero, List.set_cons_succ])
  (refine HT.takeL (i := 17) (v := ?_) rfl (by kernel_rfl) (fun _ _ _ h => h) (Or.inl ⟨by rfl, ?_⟩) (by assumption) ?_
   rotate_left
   · (intro w hSw; (try dsimp only at hSw); go_simp; (try with_reducible rfl))
   try simp only [Act.put, List.setIfInBounds_toArray, List.set_cons_zero, List.set_cons_succ])
  (refine HT.takeL (i := 18) (v := ?_) rfl (by kernel_rfl) (fun _ _ _ h => h) (Or.inl ⟨by rfl, ?_⟩) (by assumption) ?_
   rotate_left
   · (intro w hSw; (try dsimp only at hSw); go_simp; (try with_reducible rfl))
   try simp only [Act.put, List.setIfInBounds_toArray, List.set_cons_zero, List.set_cons_succ])
  (refine HT.takeL (i := 19) (v := ?_) rfl (by kernel_rfl) (fun _ _ _ h => h) (Or.inl ⟨by rfl, ?_⟩) (by assumption) ?_
   rotate_left
   · (intro w hSw; (try dsimp only at hSw); go_simp; (try with_reducible rfl))
   try simp only [Act.put, List.setIfInBounds_toArray, List.set_cons_zero, List.set_cons_succ])
  (refine HT.onlyL (i := 20) rfl (by kernel_rfl) (fun K hK => ?_)
   (go_simp; (refine hD.out.mono ?_; rintro e w2 ⟨v2, rfl, o2, b2⟩))
   refine hK.out _ _ ?_ (fun hHeld => ?_)
   · (exact ⟨(b2.cell (p := ⟨b, 0, none⟩) (by simp; omega)).trans d0, (b2.cell (p := ⟨w.heap.size, 2, none⟩) (by simp; omega)).trans z2, (b2.cell (p := ⟨b0, off + q * 2, none⟩) hb0).trans p0⟩)
   clear hK K
   try simp only [Act.put, List.setIfInBounds_toArray, List.set_cons_zero, List.set_cons_succ])
  refine HT.tail (by kernel_rfl) ?_
  simp only [List.drop_succ_cons, List.drop_zero]
  obtain ⟨A9, m9, c9, rfl⟩ : ∃ A m c, v2 = .slice A m c := by obtain ⟨A, c, e⟩ := Owns.form o2; exact ⟨A, _, c, e⟩
  have b3 : Below W3.heap.size W3 w2 := (Below.refl _ W3).drew.trans b2
  have hx9 := hx.out.below hx.out.lt b3
  have q9 := hx9.frozen 0
  obtain ⟨e0, _, _, _, _⟩ := hx9.cells
  have hfin : RefTo b (b :: (G.ownBlock.toList ++ V.ownBlock.toList)) (s.lost n) w (w2.setCell ⟨b, 0, none⟩ (.slice A9 m9 c9)) := by
    rw [hr.out]
    exact RefTo.over hbt.out (RefTo.goodTo (s' := ({ s with seen := delO s.seen p.1 } : Sto).settled) hin.out o2 b3 rfl rfl rfl rfl) hsub.out
  replace hfin := Lib.hid hfin
  replace hx9 := Lib.hid hx9
  clear o2 hHeld d0 z2 p0
  go_wp2_with fail
  go_ret
  exact ⟨rfl, hfin.out⟩
end Go.Proofs.Ytfkonpmnclknaaa
