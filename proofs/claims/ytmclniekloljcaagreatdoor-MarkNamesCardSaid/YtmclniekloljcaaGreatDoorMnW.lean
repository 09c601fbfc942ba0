/-
  The walk of MarkNames.
-/
import Derived.Test.YtmclniekloljcaaGreatDoorWkC
import Derived.Test.YtmclniekloljcaaGreatDoorNeedA
import Derived.Test.YtmclniekloljcaaGreatDoorMarkG
namespace Go.Proofs.YtmclniekloljcaaGreatDoor
open Go.RowKit
attribute [local go_sem ↓] Go.wp_at_zero Go.wp_at_succ

set_option maxRecDepth 100000 in
theorem walk_Needs_nil (d : ByteArray) (hd : d.size = 32) (w : World) :
    Calls Tryz.prog 11 #[.string d, .slice none 0 0] w fun e w' => e = .returned (.tuple #[.slice none 0 0, .int .i64 5]) ∧ Below w.heap.size w w' := by
  go_enter Tryz.func11, Tryz.ntmps11
  go_wp2_with fail
  refine (walk_read_nil d hd w).mono ?_
  rintro e w1 ⟨p, rfl, hb1⟩
  go_wp2_with fail
  go_ret2
  exact ⟨rfl, hb1⟩

/-- 32 bytes of nothing. -/
def zRoot : ByteArray := letterRoot 0
def nf0 (_ : ByteArray) : List ByteArray × Int := ([], 5)
theorem zRoot_size : zRoot.size = 32 := by decide +kernel
theorem needs_bad : needsRes nf0 [⟨0, 0, ⟨#[]⟩⟩] = ([], 4) := by
  unfold needsRes
  rw [if_neg (by decide +kernel)]
theorem needs_nil : needsRes nf0 [] = ([], 0) := by
  unfold needsRes
  rw [if_pos (by decide +kernel)]
  unfold needGo
  rw [show setS [] = [] from rfl]
theorem needs_zero : needsRes nf0 [⟨1, 0, zRoot⟩] = ([], 5) := by
  unfold needsRes
  rw [if_pos (by decide +kernel)]
  unfold needGo
  rw [if_neg (by decide)]
  rfl
theorem mark_x : markRes ⟨0, 0, 0, [], [⟨#[120]⟩], []⟩ [] = (⟨[], [], [], [], []⟩, 4) := by
  unfold markRes
  rw [if_neg (by decide +kernel)]
theorem mark_0 : markRes ⟨0, 0, 0, [], [], []⟩ [⟨#[120]⟩] = (⟨[], [], [], [], []⟩, 0) := by
  unfold markRes
  rw [if_pos (by decide +kernel)]
  rfl

theorem row1snap {w : World} {b : Nat} {s : Snap} (h : w.heap[b]? = some (.cells #[.int .i64 s.id, .int .i64 s.time, .string s.root] 27)) : SnapsAt w w.heap.size (some ⟨b, 0, none⟩) 1 [s] := by
  refine ⟨rfl, by decide, fun _ => ⟨b, 0, rfl, (Array.getElem?_eq_some_iff.1 h).1, fun i x hx j v hv => ?_⟩⟩
  rcases i with _ | i
  · simp at hx
    subst hx
    refine (cell_of_row w b _ _ _ _ h).trans ?_
    rcases j with _ | _ | _ | j <;> simp [Snap.cells] at hv ⊢ <;> exact hv
  · simp at hx

set_option maxHeartbeats 4000000 in
set_option maxRecDepth 100000 in
theorem markNames_walk (w : World) : Calls Tryz.prog 3 #[] w fun e w' => e = .returned (.bool true) ∧ Below w.heap.size w w' := by
  have hmk := make32
  go_enter Tryz.func3, Tryz.ntmps3
  go_wp2_with fail
  have hA := heap_alloc_new w (.cells #[.int .i64 0, .int .i64 0, .string ⟨#[]⟩] 27)
  have hb0 : Below w.heap.size w (w.alloc (.cells #[.int .i64 0, .int .i64 0, .string ⟨#[]⟩] 27)) := (Below.refl _ w).alloc (Nat.le_refl _) _
  generalize w.alloc (.cells #[.int .i64 0, .int .i64 0, .string ⟨#[]⟩] 27) = w0 at hA hb0 ⊢
  have hm := mark_Needs nf0 (some ⟨w.heap.size, 0, none⟩) none 1 1 0 0 [⟨0, 0, ⟨#[]⟩⟩] w0 (row1snap (s := ⟨0, 0, ⟨#[]⟩⟩) hA) (fun h => absurd h (by decide +kernel)) (fun h => absurd h (by decide +kernel))
  rw [needs_bad] at hm
  refine hm.mono ?_
  rintro e w1 ⟨v1, rfl, -, hb1⟩
  have hbw : Below w.heap.size w w1 := hb0.trans (hb1.mono hb0.size)
  clear hm hA hb0 hb1
  go_wp2_with fail
  have hm := mark_Needs nf0 none none 0 0 0 0 [] w1 RowAt.none_ (fun _ _ hs => by cases hs) (fun _ _ hs => by cases hs)
  rw [needs_nil] at hm
  refine hm.mono ?_
  rintro e w2 ⟨v2, rfl, ho2, hb2⟩
  obtain ⟨A2, c2, rfl⟩ := Owns.form ho2
  replace hbw := hbw.trans (hb2.mono hbw.size)
  clear hm ho2 hb2
  have hoZ : Owns 1 byteCell 5 (w2.alloc (.cells zcells 5)) w2.heap.size (.slice (some ⟨w2.heap.size, 0, none⟩) 32 32) (letters 32 0) :=
    ⟨rfl, .inr ⟨w2.heap.size, 32, zcells, rfl, Nat.le_refl _, heap_alloc_new w2 _, Nat.le_refl _, by simp [maxLen], rfl, rfl⟩⟩
  have hcv := run_bytes_str (c := 32) (hoZ.row byteCell_len)
  rw [show str (letters 32 0) = zRoot by simp [letters, letterRoot, zRoot]] at hcv
  replace hoZ := Lib.hid hoZ
  go_wp2_with fail
  clear hcv hoZ
  have hb3 : Below w.heap.size w ((w2.alloc (.cells zcells 5)).alloc (.cells #[.int .i64 1, .int .i64 0, .string zRoot] 27)) := (hbw.alloc hbw.size _).alloc (by simp; have := hbw.size; omega) _
  have hA : ((w2.alloc (.cells zcells 5)).alloc (.cells #[.int .i64 1, .int .i64 0, .string zRoot] 27)).heap[w2.heap.size + 1]? = some (.cells #[.int .i64 1, .int .i64 0, .string zRoot] 27) := hnew _ (hsize _ rfl)
  generalize (w2.alloc (.cells zcells 5)).alloc (.cells #[.int .i64 1, .int .i64 0, .string zRoot] 27) = w3 at hb3 hA ⊢
  have hm := mark_Needs nf0 (some ⟨w2.heap.size + 1, 0, none⟩) none 1 1 0 0 [⟨1, 0, zRoot⟩] w3 (row1snap (s := ⟨1, 0, zRoot⟩) hA) (fun _ s hs => by
    simp at hs
    subst hs
    exact ⟨by decide, fun x hx => by cases hx⟩) (fun _ s hs W _ => by
    simp at hs
    subst hs
    exact (walk_Needs_nil zRoot zRoot_size W).mono fun e w' ⟨he, hb⟩ => ⟨_, he, Owns.nil_, hb⟩)
  rw [needs_zero] at hm
  refine hm.mono ?_
  rintro e w4 ⟨v4, rfl, -, hb4⟩
  replace hbw := hb3.trans (hb4.mono hb3.size)
  clear hm hA hb3 hb4
  go_wp2_with fail
  have hX : StrsAt (w4.alloc (.cells #[.string ⟨#[120]⟩] 9)) (w4.alloc (.cells #[.string ⟨#[120]⟩] 9)).heap.size (some ⟨w4.heap.size, 0, none⟩) 1 [⟨#[120]⟩] := row1 (heap_alloc_new w4 _)
  have hb5 : Below w.heap.size w (w4.alloc (.cells #[.string ⟨#[120]⟩] 9)) := hbw.alloc hbw.size _
  generalize w4.alloc (.cells #[.string ⟨#[120]⟩] 9) = w5 at hb5 hX ⊢
  have hm := mark_Of ⟨none, 0, 0, some ⟨w4.heap.size, 0, none⟩, 1, 1, none, 0, 0⟩ ⟨0, 0, 0, [], [⟨#[120]⟩], []⟩ none 0 0 [] w5 ⟨RowAt.none_, hX, RowAt.none_, by simp⟩ RowAt.none_ (by simp) (by omega)
  rw [mark_x] at hm
  refine hm.mono ?_
  rintro e w6 ⟨x0, x1, x2, x3, x4, rfl, fv, hb6⟩
  replace hbw := hb5.trans (hb6.mono hb5.size)
  obtain ⟨A0, n0, c0, rfl⟩ := Owns.form3 (fv.own 0 _ _ rfl rfl)
  obtain ⟨A1, n1, c1, rfl⟩ := Owns.form3 (fv.own 1 _ _ rfl rfl)
  obtain ⟨A2', n2, c2', rfl⟩ := Owns.form3 (fv.own 2 _ _ rfl rfl)
  obtain ⟨A3, n3, c3, rfl⟩ := Owns.form3 (fv.own 3 _ _ rfl rfl)
  obtain ⟨A4, n4, c4, rfl⟩ := Owns.form3 (fv.own 4 _ _ rfl rfl)
  clear hm hX hb5 hb6 fv
  go_upto_region 5 with fail
  have hb7 : Below w.heap.size w (w6.alloc (.cells #[.slice A0 n0 c0, .slice A1 n1 c1, .slice A2' n2 c2', .slice A3 n3 c3, .slice A4 n4 c4] 31)) := hbw.alloc hbw.size _
  generalize w6.alloc (.cells #[.slice A0 n0 c0, .slice A1 n1 c1, .slice A2' n2 c2', .slice A3 n3 c3, .slice A4 n4 c4] 31) = w7 at hb7 ⊢
  have hX : StrsAt (w7.alloc (.cells #[.string ⟨#[120]⟩] 9)) (w7.alloc (.cells #[.string ⟨#[120]⟩] 9)).heap.size (some ⟨w7.heap.size, 0, none⟩) 1 [⟨#[120]⟩] := row1 (heap_alloc_new w7 _)
  have hb8 : Below w.heap.size w (w7.alloc (.cells #[.string ⟨#[120]⟩] 9)) := hb7.alloc hb7.size _
  go_wp2_with fail
  generalize w7.alloc (.cells #[.string ⟨#[120]⟩] 9) = w8 at hb8 hX ⊢
  have hm := mark_Of ⟨none, 0, 0, none, 0, 0, none, 0, 0⟩ ⟨0, 0, 0, [], [], []⟩ (some ⟨w7.heap.size, 0, none⟩) 1 1 [⟨#[120]⟩] w8 ⟨RowAt.none_, RowAt.none_, RowAt.none_, by simp⟩ hX (by intro x hx; simp at hx; subst hx; decide) (by omega)
  rw [mark_0] at hm
  refine hm.mono ?_
  rintro e w9 ⟨y0, y1, y2, y3, y4, rfl, fv, hb9⟩
  replace hbw := hb8.trans (hb9.mono hb8.size)
  obtain ⟨B0, m0, d0, rfl⟩ := Owns.form3 (fv.own 0 _ _ rfl rfl)
  have r0 := (fv.own 0 _ _ rfl rfl).row strCell_len
  obtain rfl : m0 = 0 := r0.1.symm
  obtain ⟨B1, m1, d1, rfl⟩ := Owns.form3 (fv.own 1 _ _ rfl rfl)
  have r1 := (fv.own 1 _ _ rfl rfl).row strCell_len
  obtain rfl : m1 = 0 := r1.1.symm
  obtain ⟨B2, m2, d2, rfl⟩ := Owns.form3 (fv.own 2 _ _ rfl rfl)
  obtain ⟨B3, m3, d3, rfl⟩ := Owns.form3 (fv.own 3 _ _ rfl rfl)
  obtain ⟨B4, m4, d4, rfl⟩ := Owns.form3 (fv.own 4 _ _ rfl rfl)
  clear hm hX hb7 hb8 hb9 fv r0 r1
  go_upto_region 6 with fail
  have hb := hbw.alloc hbw.size (.cells #[.slice B0 0 d0, .slice B1 0 d1, .slice B2 m2 d2, .slice B3 m3 d3, .slice B4 m4 d4] 31)
  have bx := SpBox.new 31 w9 (.slice B0 0 d0) (.slice B1 0 d1) (.slice B2 m2 d2) (.slice B3 m3 d3) (.slice B4 m4 d4)
  generalize w9.alloc (.cells #[.slice B0 0 d0, .slice B1 0 d1, .slice B2 m2 d2, .slice B3 m3 d3, .slice B4 m4 d4] 31) = wz at hb bx ⊢
  obtain ⟨z0, z1, z2, z3, z4⟩ := bx.cells
  go_wp2_with fail
  refine (law24_awake wz).mono ?_
  rintro e wf ⟨rfl, hbf⟩
  go_wp2_with fail
  go_ret
  exact ⟨rfl, hb.trans (hbf.mono hb.size)⟩
end Go.Proofs.YtmclniekloljcaaGreatDoor
