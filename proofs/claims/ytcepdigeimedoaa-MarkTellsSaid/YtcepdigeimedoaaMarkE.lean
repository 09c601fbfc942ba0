/-
  The contract of the reference's Of of chapter 24.
-/
import Derived.Test.YtcepdigeimedoaaMarkD
import Derived.Test.YtcepdigeimedoaaFiveS
import Derived.Test.YtcepdigeimedoaaMarkB
import Derived.Test.YtcepdigeimedoaaOfC
import Derived.Test.YtcepdigeimedoaaIdxPacksR
import Derived.Test.YtcepdigeimedoaaKrip
namespace Go.Proofs.Ytcepdigeimedoaa
open Go.RowKit
attribute [local go_sem ↓] Go.wp_at_zero Go.wp_at_succ

theorem Fives.sub {w : World} {base : Nat} {vs vs' : List Value} {ls ls' : List (List ByteArray)} (h : Fives w base vs ls) (f : Nat → Nat) (hlen : vs'.length = ls'.length) (hf : ∀ i j, i < vs'.length → j < vs'.length → f i = f j → i = j) (h1 : ∀ i, i < vs'.length → vs[f i]? = vs'[i]?) (h2 : ∀ i, i < vs'.length → ls[f i]? = ls'[i]?) : Fives w base vs' ls' := by
  refine ⟨hlen, fun i v l hv hl => ?_, fun i j a b hij ha hb => ?_⟩
  · have hi := (List.getElem?_eq_some_iff.1 hv).1
    exact h.own (f i) v l ((h1 i hi).trans hv) ((h2 i hi).trans hl)
  · have hi := (List.getElem?_eq_some_iff.1 ha).1
    have hj := (List.getElem?_eq_some_iff.1 hb).1
    exact h.ap (f i) (f j) a b (fun e => hij (hf i j hi hj e)) ((h1 i hi).trans ha) ((h1 j hj).trans hb)

set_option maxHeartbeats 16000000 in
set_option maxRecDepth 100000 in
theorem ref24_Of (v : Rws) (s : St) (A : Option Addr) (n c : Nat) (L : List ByteArray) (w : World) (h : StAt w w.heap.size v s) (hL : StrsAt w w.heap.size A n L) (hn : n ≤ 100000) :
    Calls Try.prog 43 #[v.val s, .slice A n c] w fun e w' => ∃ v0 v1 v2 v3 v4, e = .returned (.tuple #[.agg #[v0, v1, v2, v3, v4], .int .i64 (markRes s L).2]) ∧ Fives w' w.heap.size [v0, v1, v2, v3, v4] (markRes s L).1.lists ∧ Below w.heap.size w w' := by
  have hP := fun W hs => ref17_Packs v s W hs
  have hO := fun pk W hs => ref17_Of v s pk W hs
  have hst := Lib.hid h
  obtain ⟨k, nn, next, sn, cs, ps⟩ := s
  obtain ⟨V1, v1, q1, V2, v2, q2, V3, v3, q3⟩ := v
  have hM := fun W (hs : StAt W W.heap.size ⟨V1, v1, q1, V2, v2, q2, V3, v3, q3⟩ ⟨k, nn, next, sn, cs, ps⟩) => ref17_May k nn next V1 v1 q1 V2 v2 q2 V3 v3 q3 cs ps W hs.cs hs.ps hs.ok
  unfold stv at hM
  unfold Rws.val stv at hP hO
  unfold Rws.val stv
  dsimp only at hP hO ⊢
  have bs := Lib.hid (BoxAt.new w k nn next (.slice V1 v1 q1) (.slice V2 v2 q2) (.slice V3 v3 q3))
  replace hP := Lib.hid hP
  replace hO := Lib.hid hO
  replace hM := Lib.hid hM
  have lL := Lib.hid hL.1
  go_enter Try.func43, Try.ntmps43
  go_upto_region 1 with fail
  have hf0 : Below w.heap.size w ((w.alloc (.cells #[.int .i64 k, .int .i64 nn, .int .i64 next, .slice V1 v1 q1, .slice V2 v2 q2, .slice V3 v3 q3] 71)).alloc (.cells #[.slice none 0 0, .slice none 0 0, .slice none 0 0, .slice none 0 0, .slice none 0 0] 76)) := ((Below.refl _ _).alloc (Nat.le_refl _) _).alloc (by simp) _
  replace bs := Lib.hid (bs.out.alloc (.cells #[.slice none 0 0, .slice none 0 0, .slice none 0 0, .slice none 0 0, .slice none 0 0] 76))
  have rbx : Hid (SpBox 76 ((w.alloc (.cells #[.int .i64 k, .int .i64 nn, .int .i64 next, .slice V1 v1 q1, .slice V2 v2 q2, .slice V3 v3 q3] 71)).alloc (.cells #[.slice none 0 0, .slice none 0 0, .slice none 0 0, .slice none 0 0, .slice none 0 0] 76)) (w.heap.size + 1) (.slice none 0 0) (.slice none 0 0) (.slice none 0 0) (.slice none 0 0) (.slice none 0 0)) := by
    have := SpBox.new 76 (w.alloc (.cells #[.int .i64 k, .int .i64 nn, .int .i64 next, .slice V1 v1 q1, .slice V2 v2 q2, .slice V3 v3 q3] 71)) (.slice none 0 0) (.slice none 0 0) (.slice none 0 0) (.slice none 0 0) (.slice none 0 0)
    exact Lib.hid (by simpa using this)
  have hz0 : ((w.alloc (.cells #[.int .i64 k, .int .i64 nn, .int .i64 next, .slice V1 v1 q1, .slice V2 v2 q2, .slice V3 v3 q3] 71)).alloc (.cells #[.slice none 0 0, .slice none 0 0, .slice none 0 0, .slice none 0 0, .slice none 0 0] 76)).heap.size = w.heap.size + 2 := by simp
  generalize (w.alloc (.cells #[.int .i64 k, .int .i64 nn, .int .i64 next, .slice V1 v1 q1, .slice V2 v2 q2, .slice V3 v3 q3] 71)).alloc (.cells #[.slice none 0 0, .slice none 0 0, .slice none 0 0, .slice none 0 0, .slice none 0 0] 76) = w0 at bs hf0 rbx hz0 ⊢
  have sst := Lib.hid (hst.out.to hf0)
  have rL := Lib.hid (hL.to hf0)
  clear hst h hL
  obtain ⟨x0, x1, x2, x3, x4, x5⟩ := bs.out.cells
  go_wp2_with fail
  refine (hM.out w0 sst.out).mono ?_
  cases hm : mayIdx cs ps
  · rintro e w1 ⟨rfl, hb1⟩
    have hz1 := hb1.size
    replace rbx := Lib.hid (rbx.out.below (by omega : w.heap.size + 1 < w0.heap.size) hb1)
    have fw := hf0.trans (hb1.mono (by omega))
    clear x0 x1 x2 x3 x4 x5 hf0
    have hres : Hid (markRes ⟨k, nn, next, sn, cs, ps⟩ L = (⟨[], [], [], [], []⟩, 4)) := by simp [Hid, markRes, hm]
    replace hm := Lib.hid hm
    obtain ⟨r0, r1, r2, r3, r4⟩ := rbx.out.cells
    have rlt := rbx.out.lt
    have e0 := rbx.out.frozen 0
    have e1 := rbx.out.frozen 1
    have e2 := rbx.out.frozen 2
    have e3 := rbx.out.frozen 3
    have e4 := rbx.out.frozen 4
    go_wp2_with fail
    exact bodyPost_ret (v := .tuple #[.agg #[.slice none 0 0, .slice none 0 0, .slice none 0 0, .slice none 0 0, .slice none 0 0], .int .i64 4]) (by rw [results_cell_tmp Try.results43]; simp [go_sem, r0, r1, r2, r3, r4]) rfl
      ⟨.slice none 0 0, .slice none 0 0, .slice none 0 0, .slice none 0 0, .slice none 0 0, by rw [hres.out], by rw [hres.out]; exact Fives.nils _ _ 5, ((((fw.setCell (p := ⟨w.heap.size + 1, 0, none⟩) (by simp) _).setCell (p := ⟨w.heap.size + 1, 1, none⟩) (by simp) _).setCell (p := ⟨w.heap.size + 1, 2, none⟩) (by simp) _).setCell (p := ⟨w.heap.size + 1, 3, none⟩) (by simp) _).setCell (p := ⟨w.heap.size + 1, 4, none⟩) (by simp) _⟩
  rintro e w1 ⟨rfl, hb1⟩
  have hz1 := hb1.size
  replace bs := Lib.hid (bs.out.below hb1)
  replace rbx := Lib.hid (rbx.out.below (by omega : w.heap.size + 1 < w0.heap.size) hb1)
  replace sst := Lib.hid (sst.out.to hb1)
  replace rL := Lib.hid (rL.out.to hb1)
  have fw := hf0.trans (hb1.mono (by omega))
  clear x0 x1 x2 x3 x4 x5 hf0
  have hres : Hid (markRes ⟨k, nn, next, sn, cs, ps⟩ L = (markSp ⟨k, nn, next, sn, cs, ps⟩ L, 0)) := by simp [Hid, markRes, hm]
  have hpk : packsRes ⟨k, nn, next, sn, cs, ps⟩ = (packsL ⟨k, nn, next, sn, cs, ps⟩, 0) := by simp [packsRes, packsL, hm]
  replace hpk := Lib.hid hpk
  replace hm := Lib.hid hm
  have l4 : v2 ≤ 400 := by have := (mayIdx_len hm.out).2; have := sst.out.cs.1; dsimp only at this; omega
  go_upto_region 4 with fail
  have sB : SF 76 w1 (w1.alloc (.cells #[.slice none 0 0, .slice none 0 0, .slice none 0 0, .slice none 0 0, .slice none 0 0] 76)) w1.heap.size (.slice none 0 0) (.slice none 0 0) (.slice none 0 0) (.slice none 0 0) (.slice none 0 0) [.slice none 0 0, .slice none 0 0, .slice none 0 0, .slice none 0 0, .slice none 0 0] [[], [], [], [], []] :=
    ⟨SpBox.new 76 w1 _ _ _ _ _, Fives.nils _ _ 5, by simp, (Below.refl _ _).alloc (Nat.le_refl _) _⟩
  generalize w1.alloc (.cells #[.slice none 0 0, .slice none 0 0, .slice none 0 0, .slice none 0 0, .slice none 0 0] 76) = wB at sB ⊢
  go_wp2_with fail
  go_loopw [7] (fun i wr => ∃ (j : Nat) (a0 a1 : Value), j ≤ v2 ∧ i = .int .i64 j ∧ SF 76 w1 wr w1.heap.size a0 a1 (.slice none 0 0) (.slice none 0 0) (.slice none 0 0) [a0, a1, .slice none 0 0, .slice none 0 0, .slice none 0 0] [(cs.take j).filter (fun c => decide (c ∈ L)), (cs.take j).filter (fun c => !decide (c ∈ L)), [], [], []]) (fun i _ => v2 - (intOf i).toNat)
  case atStart => exact ⟨0, _, _, Nat.zero_le _, rfl, by simpa using sB⟩
  case round =>
    obtain ⟨j, a0, a1, hj, rfl, sf⟩ := hrel
    obtain ⟨wj, rfl⟩ : ∃ x : World, x = wr := ⟨_, rfl⟩
    clear sB
    have hsf := sf.hs
    obtain ⟨x0, x1, x2, x3, x4, x5⟩ := (bs.out.below sf.below).cells
    by_cases hlt : j < v2
    · have hji : (j : Int) < (v2 : Int) := by omega
      obtain ⟨b8, o8, d, rfl, hb8, hx, y0⟩ := sst.out.cs.str hlt
      have y1 := (sf.below.cell (p := ⟨b8, o8 + j, none⟩) hb8).trans y0
      have hlx := Nat.lt_of_lt_of_le hb8 sf.below.size
      have ht : cs.take (j + 1) = cs.take j ++ [d] := by rw [List.take_add_one, hx]; rfl
      have hl0 : ((cs.take j).filter (fun c => decide (c ∈ L))).length ≤ 400 := Nat.le_trans (List.length_filter_le _ _) (by simp; omega)
      have hl1 : ((cs.take j).filter (fun c => !decide (c ∈ L))).length ≤ 400 := Nat.le_trans (List.length_filter_le _ _) (by simp; omega)
      have hcall := ref24_Has A n c L d wj (rL.out.to sf.below)
      replace hx := Lib.hid hx
      cases hin : decide (d ∈ L)
      · have hy0 : Hid ((cs.take (j + 1)).filter (fun c => decide (c ∈ L)) = (cs.take j).filter (fun c => decide (c ∈ L))) := by unfold Hid; rw [ht, List.filter_append]; simp [hin]
        have hy1 : Hid ((cs.take (j + 1)).filter (fun c => !decide (c ∈ L)) = (cs.take j).filter (fun c => !decide (c ∈ L)) ++ [d]) := by unfold Hid; rw [ht, List.filter_append]; simp [hin]
        rw [hin] at hcall
        replace hin := Lib.hid hin
        replace ht := Lib.hid ht
        go_wp2_with fail
        refine hcall.mono ?_
        rintro e w7 ⟨rfl, hb7⟩
        have s7 := sf.to hb7
        clear x0 x1 x2 x3 x4 x5 y1 hcall
        generalize (cs.take j).filter (fun c => decide (c ∈ L)) = F0 at s7 hl0 hy0
        generalize (cs.take j).filter (fun c => !decide (c ∈ L)) = F1 at s7 hl1 hy1
        have hs0 := s7.hs
        go_upto_region 9 with fail
        have hS : Hid (∀ (W : World) (vs : List Value) (ls : List (List ByteArray)), SF 76 w1 W w1.heap.size a0 a1 (.slice none 0 0) (.slice none 0 0) (.slice none 0 0) vs ls → True → (fun W : World => W.cell? ⟨w1.heap.size, 1, none⟩ = some (a1) ∧ W.cell? ⟨w.heap.size, 4, none⟩ = some (.slice (some ⟨b8, o8, none⟩) v2 q2) ∧ W.cell? ⟨b8, o8 + j, none⟩ = some (.string d)) W) := fun W vs ls sf he => ⟨sf.bx.cells.2.1, (bs.out.below sf.below).cells.2.2.2.2.1, (sf.below.cell (p := ⟨b8, o8 + j, none⟩) hb8).trans y0⟩
        refine region_held_tail 9 (fun W : World => W.cell? ⟨w1.heap.size, 1, none⟩ = some (a1) ∧ W.cell? ⟨w.heap.size, 4, none⟩ = some (.slice (some ⟨b8, o8, none⟩) v2 q2) ∧ W.cell? ⟨b8, o8 + j, none⟩ = some (.string d)) (by kernel_rfl) (by kernel_rfl) ?_
        have hHeld : (fun W : World => W.cell? ⟨w1.heap.size, 1, none⟩ = some (a1) ∧ W.cell? ⟨w.heap.size, 4, none⟩ = some (.slice (some ⟨b8, o8, none⟩) v2 q2) ∧ W.cell? ⟨b8, o8 + j, none⟩ = some (.string d)) w7.drew := hS.out _ _ _ s7.drew trivial
        have sA := s7.drew.alloc (.cells #[.string d] 9)
        have hsA := sA.hs
        have hoA := sA.own 1 rfl rfl
        (refine HT.takeL (i := 0) (v := ?_) rfl (by kernel_rfl) (fun _ _ _ h => h) (Or.inl ⟨by rfl, ?_⟩) (by assumption) ?_
         rotate_left
         · (intro w hSw; (try dsimp only at hSw); go_simp; (try with_reducible rfl))
         try simp only [Act.put, List.setIfInBounds_toArray, List.set_cons_zero, List.set_cons_succ])
        (refine HT.takeL (i := 1) (v := ?_) rfl (by kernel_rfl) (fun _ _ _ h => h) (Or.inl ⟨by rfl, ?_⟩) (by assumption) ?_
         rotate_left
         · (intro w hSw; (try dsimp only at hSw); go_simp; (try with_reducible rfl))
         try simp only [Act.put, List.setIfInBounds_toArray, List.set_cons_zero, List.set_cons_succ])
        (refine HT.takeL (i := 2) (v := ?_) rfl (by kernel_rfl) (fun _ _ _ h => h) (Or.inl ⟨by rfl, ?_⟩) (by assumption) ?_
         rotate_left
         · (intro w hSw; (try dsimp only at hSw); go_simp; (try with_reducible rfl))
         try simp only [Act.put, List.setIfInBounds_toArray, List.set_cons_zero, List.set_cons_succ])
        (refine HT.takeL (i := 3) (v := ?_) rfl (by kernel_rfl) (fun _ _ _ h => h) (Or.inl ⟨by rfl, ?_⟩) (by assumption) ?_
         rotate_left
         · (intro w hSw; (try dsimp only at hSw); go_simp; (try with_reducible rfl))
         try simp only [Act.put, List.setIfInBounds_toArray, List.set_cons_zero, List.set_cons_succ])
        (refine HT.takeL (i := 4) (v := ?_) rfl (by kernel_rfl) (fun _ _ _ h => h) (Or.inl ⟨by rfl, ?_⟩) (by assumption) ?_
         rotate_left
         · (intro w hSw; (try dsimp only at hSw); go_simp; (try with_reducible rfl))
         try simp only [Act.put, List.setIfInBounds_toArray, List.set_cons_zero, List.set_cons_succ])
        (refine HT.takeL (i := 5) (v := ?_) rfl (by kernel_rfl) (fun _ _ _ h => h) (Or.inl ⟨by rfl, ?_⟩) (by assumption) ?_
         rotate_left
         · (intro w hSw; (try dsimp only at hSw); go_simp; (try with_reducible rfl))
         try simp only [Act.put, List.setIfInBounds_toArray, List.set_cons_zero, List.set_cons_succ])
        (refine HT.takeL (i := 6) (v := ?_) rfl (by kernel_rfl) (fun _ _ _ h => h) (Or.inl ⟨by rfl, ?_⟩) (by assumption) ?_
         rotate_left
         · (intro w hSw; (try dsimp only at hSw); go_simp; (try with_reducible rfl))
         try simp only [Act.put, List.setIfInBounds_toArray, List.set_cons_zero, List.set_cons_succ])
        (refine HT.onlyL (i := 7) rfl (by kernel_rfl) (fun K hK => ?_)
         go_simp
         refine hK.out _ _ ?_ (fun hHeld => ?_)
         · (exact hS.out _ _ _ sA trivial)
         clear hK K
         try simp only [Act.put, List.setIfInBounds_toArray, List.set_cons_zero, List.set_cons_succ])
        (refine HT.onlyL (i := 8) rfl (by kernel_rfl) (fun K hK => ?_)
         ((apply Elem.step_one strE (s := .tmp 46) (x := .tmp 52) (base := w1.heap.size + 1) (l := _) (y := d); (case' hgd => rfl); (case' ho => rfl); (case' hs => rfl); (case' hx => rfl); (case' hown => exact (hoA)); (case' hy => exact (fun j u hu => by rcases j with _ | j <;> simp [strE, strCell] at hu; subst hu; first | (go_simp; done) | exact newCell _ _ _ _ _)); (case' hl => exact (by omega)); (case' hbase => exact (by first | omega | (simp; try omega)))); intro v9 w9 hown9 hg9 hat9; have s9 := sA.step 1 rfl hown9 hg9 hat9; have hs9 := s9.hs)
         refine hK.out _ _ ?_ (fun hHeld => ?_)
         · (exact hS.out _ _ _ s9 trivial)
         clear hK K
         try simp only [Act.put, List.setIfInBounds_toArray, List.set_cons_zero, List.set_cons_succ])
        refine HT.tail (by kernel_rfl) ?_
        simp only [List.drop_succ_cons, List.drop_zero]
        obtain ⟨A9, n9, c9, rfl⟩ := Owns.form3 hown9
        have sE := s9.set1 (.slice A9 n9 c9)
        obtain ⟨r0, r1, r2, r3, r4⟩ := s9.bx.cells
        have rf := s9.bx.frozen 1
        have rlt := s9.bx.lt
        clear hHeld hS sA hoA hown9 hat9 hg9 s9
        go_wp2_with fail
        generalize w9.setCell ⟨w1.heap.size, 1, none⟩ (.slice A9 n9 c9) = w10 at sE ⊢
        clear r0 r1 r2 r3 r4 rf rlt
        go_wp2_with fail
        go_roundw
        case rel => exact ⟨j + 1, a0, _, by omega, by go_num, by rw [hy0.out, hy1.out]; exact sE⟩
        case measure => simp [intOf]; omega
      · have hy0 : Hid ((cs.take (j + 1)).filter (fun c => decide (c ∈ L)) = (cs.take j).filter (fun c => decide (c ∈ L)) ++ [d]) := by unfold Hid; rw [ht, List.filter_append]; simp [hin]
        have hy1 : Hid ((cs.take (j + 1)).filter (fun c => !decide (c ∈ L)) = (cs.take j).filter (fun c => !decide (c ∈ L))) := by unfold Hid; rw [ht, List.filter_append]; simp [hin]
        rw [hin] at hcall
        replace hin := Lib.hid hin
        replace ht := Lib.hid ht
        go_wp2_with fail
        refine hcall.mono ?_
        rintro e w7 ⟨rfl, hb7⟩
        have s7 := sf.to hb7
        clear x0 x1 x2 x3 x4 x5 y1 hcall
        generalize (cs.take j).filter (fun c => decide (c ∈ L)) = F0 at s7 hl0 hy0
        generalize (cs.take j).filter (fun c => !decide (c ∈ L)) = F1 at s7 hl1 hy1
        have hs0 := s7.hs
        go_upto_region 8 with fail
        have hS : Hid (∀ (W : World) (vs : List Value) (ls : List (List ByteArray)), SF 76 w1 W w1.heap.size a0 a1 (.slice none 0 0) (.slice none 0 0) (.slice none 0 0) vs ls → True → (fun W : World => W.cell? ⟨w1.heap.size, 0, none⟩ = some (a0) ∧ W.cell? ⟨w.heap.size, 4, none⟩ = some (.slice (some ⟨b8, o8, none⟩) v2 q2) ∧ W.cell? ⟨b8, o8 + j, none⟩ = some (.string d)) W) := fun W vs ls sf he => ⟨sf.bx.cells.1, (bs.out.below sf.below).cells.2.2.2.2.1, (sf.below.cell (p := ⟨b8, o8 + j, none⟩) hb8).trans y0⟩
        refine region_held_tail 9 (fun W : World => W.cell? ⟨w1.heap.size, 0, none⟩ = some (a0) ∧ W.cell? ⟨w.heap.size, 4, none⟩ = some (.slice (some ⟨b8, o8, none⟩) v2 q2) ∧ W.cell? ⟨b8, o8 + j, none⟩ = some (.string d)) (by kernel_rfl) (by kernel_rfl) ?_
        have hHeld : (fun W : World => W.cell? ⟨w1.heap.size, 0, none⟩ = some (a0) ∧ W.cell? ⟨w.heap.size, 4, none⟩ = some (.slice (some ⟨b8, o8, none⟩) v2 q2) ∧ W.cell? ⟨b8, o8 + j, none⟩ = some (.string d)) w7.drew := hS.out _ _ _ s7.drew trivial
        have sA := s7.drew.alloc (.cells #[.string d] 9)
        have hsA := sA.hs
        have hoA := sA.own 0 rfl rfl
        (refine HT.takeL (i := 0) (v := ?_) rfl (by kernel_rfl) (fun _ _ _ h => h) (Or.inl ⟨by rfl, ?_⟩) (by assumption) ?_
         rotate_left
         · (intro w hSw; (try dsimp only at hSw); go_simp; (try with_reducible rfl))
         try simp only [Act.put, List.setIfInBounds_toArray, List.set_cons_zero, List.set_cons_succ])
        (refine HT.takeL (i := 1) (v := ?_) rfl (by kernel_rfl) (fun _ _ _ h => h) (Or.inl ⟨by rfl, ?_⟩) (by assumption) ?_
         rotate_left
         · (intro w hSw; (try dsimp only at hSw); go_simp; (try with_reducible rfl))
         try simp only [Act.put, List.setIfInBounds_toArray, List.set_cons_zero, List.set_cons_succ])
        (refine HT.takeL (i := 2) (v := ?_) rfl (by kernel_rfl) (fun _ _ _ h => h) (Or.inl ⟨by rfl, ?_⟩) (by assumption) ?_
         rotate_left
         · (intro w hSw; (try dsimp only at hSw); go_simp; (try with_reducible rfl))
         try simp only [Act.put, List.setIfInBounds_toArray, List.set_cons_zero, List.set_cons_succ])
        (refine HT.takeL (i := 3) (v := ?_) rfl (by kernel_rfl) (fun _ _ _ h => h) (Or.inl ⟨by rfl, ?_⟩) (by assumption) ?_
         rotate_left
         · (intro w hSw; (try dsimp only at hSw); go_simp; (try with_reducible rfl))
         try simp only [Act.put, List.setIfInBounds_toArray, List.set_cons_zero, List.set_cons_succ])
        (refine HT.takeL (i := 4) (v := ?_) rfl (by kernel_rfl) (fun _ _ _ h => h) (Or.inl ⟨by rfl, ?_⟩) (by assumption) ?_
         rotate_left
         · (intro w hSw; (try dsimp only at hSw); go_simp; (try with_reducible rfl))
         try simp only [Act.put, List.setIfInBounds_toArray, List.set_cons_zero, List.set_cons_succ])
        (refine HT.takeL (i := 5) (v := ?_) rfl (by kernel_rfl) (fun _ _ _ h => h) (Or.inl ⟨by rfl, ?_⟩) (by assumption) ?_
         rotate_left
         · (intro w hSw; (try dsimp only at hSw); go_simp; (try with_reducible rfl))
         try simp only [Act.put, List.setIfInBounds_toArray, List.set_cons_zero, List.set_cons_succ])
        (refine HT.takeL (i := 6) (v := ?_) rfl (by kernel_rfl) (fun _ _ _ h => h) (Or.inl ⟨by rfl, ?_⟩) (by assumption) ?_
         rotate_left
         · (intro w hSw; (try dsimp only at hSw); go_simp; (try with_reducible rfl))
         try simp only [Act.put, List.setIfInBounds_toArray, List.set_cons_zero, List.set_cons_succ])
        (refine HT.onlyL (i := 7) rfl (by kernel_rfl) (fun K hK => ?_)
         go_simp
         refine hK.out _ _ ?_ (fun hHeld => ?_)
         · (exact hS.out _ _ _ sA trivial)
         clear hK K
         try simp only [Act.put, List.setIfInBounds_toArray, List.set_cons_zero, List.set_cons_succ])
        (refine HT.onlyL (i := 8) rfl (by kernel_rfl) (fun K hK => ?_)
         ((apply Elem.step_one strE (s := .tmp 36) (x := .tmp 42) (base := w1.heap.size + 1) (l := _) (y := d); (case' hgd => rfl); (case' ho => rfl); (case' hs => rfl); (case' hx => rfl); (case' hown => exact (hoA)); (case' hy => exact (fun j u hu => by rcases j with _ | j <;> simp [strE, strCell] at hu; subst hu; first | (go_simp; done) | exact newCell _ _ _ _ _)); (case' hl => exact (by omega)); (case' hbase => exact (by first | omega | (simp; try omega)))); intro v9 w9 hown9 hg9 hat9; have s9 := sA.step 0 rfl hown9 hg9 hat9; have hs9 := s9.hs)
         refine hK.out _ _ ?_ (fun hHeld => ?_)
         · (exact hS.out _ _ _ s9 trivial)
         clear hK K
         try simp only [Act.put, List.setIfInBounds_toArray, List.set_cons_zero, List.set_cons_succ])
        refine HT.tail (by kernel_rfl) ?_
        simp only [List.drop_succ_cons, List.drop_zero]
        obtain ⟨A9, n9, c9, rfl⟩ := Owns.form3 hown9
        have sE := s9.set0 (.slice A9 n9 c9)
        obtain ⟨r0, r1, r2, r3, r4⟩ := s9.bx.cells
        have rf := s9.bx.frozen 0
        have rlt := s9.bx.lt
        clear hHeld hS sA hoA hown9 hat9 hg9 s9
        go_wp2_with fail
        generalize w9.setCell ⟨w1.heap.size, 0, none⟩ (.slice A9 n9 c9) = w10 at sE ⊢
        clear r0 r1 r2 r3 r4 rf rlt
        go_wp2_with fail
        go_roundw
        case rel => exact ⟨j + 1, _, a1, by omega, by go_num, by rw [hy0.out, hy1.out]; exact sE⟩
        case measure => simp [intOf]; omega
    · obtain rfl : j = v2 := by omega
      have ht : cs.take j = cs := List.take_of_length_le (by have := sst.out.cs.1; dsimp only at this; omega)
      rw [ht] at sf
      replace ht := Lib.hid ht
      go_wp2_with fail
      refine (hP.out wj (sst.out.to sf.below)).mono ?_
      rw [hpk.out]
      rintro e wp ⟨u, rfl, ou, hbp⟩
      dsimp only at ou
      obtain ⟨PL, hPL⟩ : ∃ x, x = packsL ⟨k, nn, next, sn, cs, ps⟩ := ⟨_, rfl⟩
      rw [← hPL] at ou
      obtain ⟨m, hml⟩ : ∃ x, x = PL.length := ⟨_, rfl⟩
      obtain ⟨A5, c5, rfl⟩ : ∃ A c, u = .slice A m c := by obtain ⟨A, c, e⟩ := ou.form; exact ⟨A, c, by rw [e, hml]⟩
      have hmx : m ≤ 400 := by rw [hml, hPL]; exact packs_len hm.out
      have sP := sf.add hbp ou
      replace hPL := Lib.hid hPL
      replace hml := Lib.hid hml
      clear x0 x1 x2 x3 x4 x5 ou sf hbp hsf
      go_wp2_with fail
      go_loopw [10] (fun i wr => ∃ (q : Nat) (a2 a3 a4 : Value), q ≤ m ∧ i = .int .i64 q ∧ SF 76 w1 wr w1.heap.size a0 a1 a2 a3 a4 [a0, a1, a2, a3, a4, .slice A5 m c5] [cs.filter (fun c => decide (c ∈ L)), cs.filter (fun c => !decide (c ∈ L)), (PL.take q).filter (staleP ⟨k, nn, next, sn, cs, ps⟩ L), (PL.take q).filter (deadP ⟨k, nn, next, sn, cs, ps⟩ L), movedL ⟨k, nn, next, sn, cs, ps⟩ L (PL.take q), PL]) (fun i _ => m - (intOf i).toNat)
      case atStart => exact ⟨0, _, _, _, Nat.zero_le _, rfl, by simpa [movedL] using sP⟩
      case round =>
        obtain ⟨q, a2, a3, a4, hq, rfl, sf⟩ := hrel
        obtain ⟨wq, rfl⟩ : ∃ x : World, x = wr := ⟨_, rfl⟩
        clear sP
        have hsf := sf.hs
        by_cases hlt : q < m
        · have hqi : (q : Int) < (m : Int) := by omega
          have rK := (sf.own 5 rfl rfl).row strCell_len
          obtain ⟨b5, o5, pk, rfl, hb5, hxk, y0⟩ := rK.str hlt
          have hinP : pk ∈ packsL ⟨k, nn, next, sn, cs, ps⟩ := hPL.out ▸ List.mem_of_getElem? hxk
          have ht : PL.take (q + 1) = PL.take q ++ [pk] := by rw [List.take_add_one, hxk]; rfl
          have hl2 : ((PL.take q).filter (staleP ⟨k, nn, next, sn, cs, ps⟩ L)).length ≤ 400 := Nat.le_trans (List.length_filter_le _ _) (by simp; omega)
          have hl3 : ((PL.take q).filter (deadP ⟨k, nn, next, sn, cs, ps⟩ L)).length ≤ 400 := Nat.le_trans (List.length_filter_le _ _) (by simp; omega)
          have hl4 : (movedL ⟨k, nn, next, sn, cs, ps⟩ L (PL.take q)).length ≤ 400 * 400 := by
            have h1 := movedL_len (s := ⟨k, nn, next, sn, cs, ps⟩) (L := L) hm.out (PL.take q)
            have h2 : (PL.take q).length ≤ 400 := by simp; omega
            omega
          obtain ⟨x0, x1, x2, x3, x4, x5⟩ := (bs.out.below sf.below).cells
          have lx := (bs.out.below sf.below).lt
          have ssq := Lib.hid (sst.out.to sf.below)
          replace hxk := Lib.hid hxk
          replace hinP := Lib.hid hinP
          replace rK := Lib.hid rK
          go_upto_region 14 with fail
          refine region_krip (fun W : World => Below wq.heap.size wq W) (by kernel_rfl) ((Below.refl _ _).drew) ?_
          (refine kF.takeL (i := 0) (v := ?_) rfl (by kernel_rfl) (fun _ _ _ h => h) (Or.inl ⟨by rfl, ?_⟩) ?_
           rotate_left
           · (intro wS hSw; (try dsimp only at hSw); have hcS := fun b o (h : b < wq.heap.size) => hSw.cell (p := ⟨b, o, none⟩) h; go_simp; (try with_reducible rfl))
           try simp only [Act.put, List.setIfInBounds_toArray, List.set_cons_zero, List.set_cons_succ])
          (refine kF.takeL (i := 1) (v := ?_) rfl (by kernel_rfl) (fun _ _ _ h => h) (Or.inl ⟨by rfl, ?_⟩) ?_
           rotate_left
           · (intro wS hSw; (try dsimp only at hSw); have hcS := fun b o (h : b < wq.heap.size) => hSw.cell (p := ⟨b, o, none⟩) h; go_simp; (try with_reducible rfl))
           try simp only [Act.put, List.setIfInBounds_toArray, List.set_cons_zero, List.set_cons_succ])
          (refine kF.takeL (i := 2) (v := ?_) rfl (by kernel_rfl) (fun _ _ _ h => h) (Or.inl ⟨by rfl, ?_⟩) ?_
           rotate_left
           · (intro wS hSw; (try dsimp only at hSw); have hcS := fun b o (h : b < wq.heap.size) => hSw.cell (p := ⟨b, o, none⟩) h; go_simp; (try with_reducible rfl))
           try simp only [Act.put, List.setIfInBounds_toArray, List.set_cons_zero, List.set_cons_succ])
          (refine kF.takeL (i := 3) (v := ?_) rfl (by kernel_rfl) (fun _ _ _ h => h) (Or.inl ⟨by rfl, ?_⟩) ?_
           rotate_left
           · (intro wS hSw; (try dsimp only at hSw); have hcS := fun b o (h : b < wq.heap.size) => hSw.cell (p := ⟨b, o, none⟩) h; go_simp; (try with_reducible rfl))
           try simp only [Act.put, List.setIfInBounds_toArray, List.set_cons_zero, List.set_cons_succ])
          (refine kF.takeL (i := 4) (v := ?_) rfl (by kernel_rfl) (fun _ _ _ h => h) (Or.inl ⟨by rfl, ?_⟩) ?_
           rotate_left
           · (intro wS hSw; (try dsimp only at hSw); have hcS := fun b o (h : b < wq.heap.size) => hSw.cell (p := ⟨b, o, none⟩) h; go_simp; (try with_reducible rfl))
           try simp only [Act.put, List.setIfInBounds_toArray, List.set_cons_zero, List.set_cons_succ])
          (refine kF.lastL (j := 5) rfl (by kernel_rfl) (fun _ _ _ _ _ h => h) (fun _ _ h1 h2 => below_S (Nat.le_refl _) h1 h2) (fun hSk K hK => ?_)
           (go_simp; refine (hO.out pk _ (ssq.out.to hSk)).mono ?_; rintro e w5 ⟨u1, u2, D, P, z, rfl, hres5, ow1, ow2, hb5w⟩; obtain rfl := ofRes_inD (s := ⟨k, nn, next, sn, cs, ps⟩) hm.out hres5; obtain ⟨A8, n8, c8, rfl⟩ := Owns.form3 ow1; have hn8 : (inD ⟨k, nn, next, sn, cs, ps⟩ pk).length = n8 := (ow1.row strCell_len).1; have hSw5 := hSk.trans (hb5w.mono hSk.size); have sD := (sf.to hSk).add hb5w ow1)
           refine hK.out _ _ (below_S (Nat.le_refl _) hSk hb5w) ?_
           clear hK K
           try simp only [Act.put, List.setIfInBounds_toArray, List.set_cons_zero, List.set_cons_succ])
          (refine kF.takeL (i := 6) (v := ?_) rfl (by kernel_rfl) (fun _ _ _ h => h) (Or.inl ⟨by rfl, ?_⟩) ?_
           rotate_left
           · (intro wS hSw; (try dsimp only at hSw); have hcS := fun b o (h : b < wq.heap.size) => hSw.cell (p := ⟨b, o, none⟩) h; go_simp; (try with_reducible rfl))
           try simp only [Act.put, List.setIfInBounds_toArray, List.set_cons_zero, List.set_cons_succ])
          (refine kF.takeL (i := 7) (v := ?_) rfl (by kernel_rfl) (fun _ _ _ h => h) (Or.inl ⟨by rfl, ?_⟩) ?_
           rotate_left
           · (intro wS hSw; (try dsimp only at hSw); have hcS := fun b o (h : b < wq.heap.size) => hSw.cell (p := ⟨b, o, none⟩) h; go_simp; (try with_reducible rfl))
           try simp only [Act.put, List.setIfInBounds_toArray, List.set_cons_zero, List.set_cons_succ])
          (refine kF.takeL (i := 8) (v := ?_) rfl (by kernel_rfl) (fun _ _ _ h => h) (Or.inl ⟨by rfl, ?_⟩) ?_
           rotate_left
           · (intro wS hSw; (try dsimp only at hSw); have hcS := fun b o (h : b < wq.heap.size) => hSw.cell (p := ⟨b, o, none⟩) h; go_simp; (try with_reducible rfl))
           try simp only [Act.put, List.setIfInBounds_toArray, List.set_cons_zero, List.set_cons_succ])
          (refine kF.takeL (i := 9) (v := ?_) rfl (by kernel_rfl) (fun _ _ _ h => h) (Or.inl ⟨by rfl, ?_⟩) ?_
           rotate_left
           · (intro wS hSw; (try dsimp only at hSw); have hcS := fun b o (h : b < wq.heap.size) => hSw.cell (p := ⟨b, o, none⟩) h; go_simp; (try with_reducible rfl))
           try simp only [Act.put, List.setIfInBounds_toArray, List.set_cons_zero, List.set_cons_succ])
          (refine kF.takeL (i := 10) (v := ?_) rfl (by kernel_rfl) (fun _ _ _ h => h) (Or.inl ⟨by rfl, ?_⟩) ?_
           rotate_left
           · (intro wS hSw; (try dsimp only at hSw); have hcS := fun b o (h : b < wq.heap.size) => hSw.cell (p := ⟨b, o, none⟩) h; go_simp; (try with_reducible rfl))
           try simp only [Act.put, List.setIfInBounds_toArray, List.set_cons_zero, List.set_cons_succ])
          (refine kF.takeL (i := 11) (v := ?_) rfl (by kernel_rfl) (fun _ _ _ h => h) (Or.inl ⟨by rfl, ?_⟩) ?_
           rotate_left
           · (intro wS hSw; (try dsimp only at hSw); have hcS := fun b o (h : b < wq.heap.size) => hSw.cell (p := ⟨b, o, none⟩) h; go_simp; (try with_reducible rfl))
           try simp only [Act.put, List.setIfInBounds_toArray, List.set_cons_zero, List.set_cons_succ])
          (refine kF.takeL (i := 12) (v := ?_) rfl (by kernel_rfl) (fun _ _ _ h => h) (Or.inl ⟨by rfl, ?_⟩) ?_
           rotate_left
           · (intro wS hSw; (try dsimp only at hSw); have hcS := fun b o (h : b < wq.heap.size) => hSw.cell (p := ⟨b, o, none⟩) h; go_simp; (try with_reducible rfl))
           try simp only [Act.put, List.setIfInBounds_toArray, List.set_cons_zero, List.set_cons_succ])
          refine kF.done (by kernel_rfl) ?_
          clear x0 x1 x2 x3 x4 x5 lx y0 hSw5 hSk hb5w ow1 ow2 hres5 rK sf
          have hlD := inD_len (s := ⟨k, nn, next, sn, cs, ps⟩) (pack := pk) hm.out
          obtain ⟨D, hD⟩ : ∃ x, x = inD ⟨k, nn, next, sn, cs, ps⟩ pk := ⟨_, rfl⟩
          rw [← hD] at sD hlD hn8
          generalize hF0 : cs.filter (fun c => decide (c ∈ L)) = F0 at sD
          generalize hF1 : cs.filter (fun c => !decide (c ∈ L)) = F1 at sD
          generalize hF2 : (PL.take q).filter (staleP ⟨k, nn, next, sn, cs, ps⟩ L) = F2 at sD hl2
          generalize hF3 : (PL.take q).filter (deadP ⟨k, nn, next, sn, cs, ps⟩ L) = F3 at sD hl3
          generalize hF4 : movedL ⟨k, nn, next, sn, cs, ps⟩ L (PL.take q) = F4 at sD hl4
          replace hF0 := Lib.hid hF0
          replace hF1 := Lib.hid hF1
          replace hF2 := Lib.hid hF2
          replace hF3 := Lib.hid hF3
          replace hF4 := Lib.hid hF4
          replace hD := Lib.hid hD
          replace ht := Lib.hid ht
          replace hn8 := Lib.hid hn8
          go_wp2_with fail
          go_loopw [14, 15] (fun cn i wr => ∃ (kk ct : Nat), kk ≤ n8 ∧ i = .int .i64 kk ∧ cn = .int .i64 ct ∧ ct ≤ kk ∧ Hid (ct = ((D.take kk).filter (fun c => decide (c ∈ L))).length) ∧ SF 76 w1 wr w1.heap.size a0 a1 a2 a3 a4 [a0, a1, a2, a3, a4, .slice (some ⟨b5, o5, none⟩) m c5, .slice A8 n8 c8] [F0, F1, F2, F3, F4, PL, D]) (fun _ i _ => n8 - (intOf i).toNat)
          case atStart => exact ⟨0, 0, Nat.zero_le _, rfl, rfl, Nat.le_refl _, by simp [Hid], sD⟩
          case round =>
            obtain ⟨kk, ct, hkk, rfl, rfl, hck, hct, sf⟩ := hrel
            obtain ⟨wk, rfl⟩ : ∃ x : World, x = wr := ⟨_, rfl⟩
            clear sD
            have hsf := sf.hs
            by_cases hlt8 : kk < n8
            · have hki : (kk : Int) < (n8 : Int) := by omega
              obtain ⟨b8, o8, d, rfl, hb8, hx, y0⟩ := ((sf.own 6 rfl rfl).row strCell_len).str hlt8
              have hcall := ref24_Has A n c L d wk (rL.out.to sf.below)
              have hn400 : n8 ≤ 400 := by have := hn8.out; omega
              have htk : D.take (kk + 1) = D.take kk ++ [d] := by rw [List.take_add_one, hx]; rfl
              replace hx := Lib.hid hx
              cases hin : decide (d ∈ L)
              · have hct' : Hid (ct = ((D.take (kk + 1)).filter (fun c => decide (c ∈ L))).length) := by unfold Hid; rw [htk, List.filter_append]; simp [hin]; exact hct.out
                rw [hin] at hcall
                replace hin := Lib.hid hin
                replace htk := Lib.hid htk
                go_wp2_with fail
                refine hcall.mono ?_
                rintro e w7 ⟨rfl, hb7⟩
                have s7 := sf.to hb7
                go_wp2_with fail
                go_roundw
                case rel => exact ⟨kk + 1, ct, by omega, by go_num, rfl, by omega, hct', s7⟩
                case measure => simp [intOf]; omega
              · have hct' : Hid (ct + 1 = ((D.take (kk + 1)).filter (fun c => decide (c ∈ L))).length) := by unfold Hid; rw [htk, List.filter_append]; simp [hin]; exact hct.out
                rw [hin] at hcall
                replace hin := Lib.hid hin
                replace htk := Lib.hid htk
                go_wp2_with fail
                refine hcall.mono ?_
                rintro e w7 ⟨rfl, hb7⟩
                have s7 := sf.to hb7
                go_wp2_with fail
                go_roundw
                case rel => exact ⟨kk + 1, ct + 1, by omega, by go_num, by go_num, by omega, hct', s7⟩
                case measure => simp [intOf]; omega
            · obtain rfl : kk = n8 := by omega
              have hDt : D.take kk = D := List.take_of_length_le (by have := hn8.out; omega)
              rw [hDt] at hct
              have hk9 : (keptD ⟨k, nn, next, sn, cs, ps⟩ L pk).length = ct := by rw [hct.out, hD.out]; rfl
              have hi9 : (inD ⟨k, nn, next, sn, cs, ps⟩ pk).length = kk := by rw [← hD.out]; exact hn8.out
              replace hDt := Lib.hid hDt
              by_cases h0 : ct = 0
              · subst h0
                have hs9 : staleP ⟨k, nn, next, sn, cs, ps⟩ L pk = false := by unfold staleP; rw [hk9, hi9]; simp
                have hd9 : deadP ⟨k, nn, next, sn, cs, ps⟩ L pk = true := by unfold deadP; rw [hk9]; simp
                have e2 : Hid ((PL.take (q + 1)).filter (staleP ⟨k, nn, next, sn, cs, ps⟩ L) = F2) := by unfold Hid; rw [ht.out, List.filter_append, hF2.out]; simp [hs9]
                have e3 : Hid ((PL.take (q + 1)).filter (deadP ⟨k, nn, next, sn, cs, ps⟩ L) = F3 ++ [pk]) := by unfold Hid; rw [ht.out, List.filter_append, hF3.out]; simp [hd9]
                have e4 : Hid (movedL ⟨k, nn, next, sn, cs, ps⟩ L (PL.take (q + 1)) = F4) := by unfold Hid; rw [ht.out, movedL_no hs9, hF4.out]
                clear hs9 hd9
                have hs0 := sf.hs
                go_upto_region 22 with fail
                have hS : Hid (∀ (W : World) (vs : List Value) (ls : List (List ByteArray)), SF 76 w1 W w1.heap.size a0 a1 a2 a3 a4 vs ls → vs[5]? = some (.slice (some ⟨b5, o5, none⟩) m c5) ∧ ls[5]? = some PL → (fun W : World => W.cell? ⟨w1.heap.size, 3, none⟩ = some (a3) ∧ W.cell? ⟨b5, o5 + q, none⟩ = some (.string pk)) W) := fun W vs ls sf he => ⟨sf.bx.cells.2.2.2.1, ((sf.own 5 he.1 he.2).row strCell_len).strAt hxk.out⟩
                refine region_held_tail 8 (fun W : World => W.cell? ⟨w1.heap.size, 3, none⟩ = some (a3) ∧ W.cell? ⟨b5, o5 + q, none⟩ = some (.string pk)) (by kernel_rfl) (by kernel_rfl) ?_
                have hHeld : (fun W : World => W.cell? ⟨w1.heap.size, 3, none⟩ = some (a3) ∧ W.cell? ⟨b5, o5 + q, none⟩ = some (.string pk)) wk.drew := hS.out _ _ _ sf.drew ⟨rfl, rfl⟩
                have sA := sf.drew.alloc (.cells #[.string pk] 9)
                have hsA := sA.hs
                have hoA := sA.own 3 rfl rfl
                (refine HT.takeL (i := 0) (v := ?_) rfl (by kernel_rfl) (fun _ _ _ h => h) (Or.inl ⟨by rfl, ?_⟩) (by assumption) ?_
                 rotate_left
                 · (intro w hSw; (try dsimp only at hSw); go_simp; (try with_reducible rfl))
                 try simp only [Act.put, List.setIfInBounds_toArray, List.set_cons_zero, List.set_cons_succ])
                (refine HT.takeL (i := 1) (v := ?_) rfl (by kernel_rfl) (fun _ _ _ h => h) (Or.inl ⟨by rfl, ?_⟩) (by assumption) ?_
                 rotate_left
                 · (intro w hSw; (try dsimp only at hSw); go_simp; (try with_reducible rfl))
                 try simp only [Act.put, List.setIfInBounds_toArray, List.set_cons_zero, List.set_cons_succ])
                (refine HT.takeL (i := 2) (v := ?_) rfl (by kernel_rfl) (fun _ _ _ h => h) (Or.inl ⟨by rfl, ?_⟩) (by assumption) ?_
                 rotate_left
                 · (intro w hSw; (try dsimp only at hSw); go_simp; (try with_reducible rfl))
                 try simp only [Act.put, List.setIfInBounds_toArray, List.set_cons_zero, List.set_cons_succ])
                (refine HT.takeL (i := 3) (v := ?_) rfl (by kernel_rfl) (fun _ _ _ h => h) (Or.inl ⟨by rfl, ?_⟩) (by assumption) ?_
                 rotate_left
                 · (intro w hSw; (try dsimp only at hSw); go_simp; (try with_reducible rfl))
                 try simp only [Act.put, List.setIfInBounds_toArray, List.set_cons_zero, List.set_cons_succ])
                (refine HT.takeL (i := 4) (v := ?_) rfl (by kernel_rfl) (fun _ _ _ h => h) (Or.inl ⟨by rfl, ?_⟩) (by assumption) ?_
                 rotate_left
                 · (intro w hSw; (try dsimp only at hSw); go_simp; (try with_reducible rfl))
                 try simp only [Act.put, List.setIfInBounds_toArray, List.set_cons_zero, List.set_cons_succ])
                (refine HT.takeL (i := 5) (v := ?_) rfl (by kernel_rfl) (fun _ _ _ h => h) (Or.inl ⟨by rfl, ?_⟩) (by assumption) ?_
                 rotate_left
                 · (intro w hSw; (try dsimp only at hSw); go_simp; (try with_reducible rfl))
                 try simp only [Act.put, List.setIfInBounds_toArray, List.set_cons_zero, List.set_cons_succ])
                (refine HT.onlyL (i := 6) rfl (by kernel_rfl) (fun K hK => ?_)
                 go_simp
                 refine hK.out _ _ ?_ (fun hHeld => ?_)
                 · (exact hS.out _ _ _ sA ⟨rfl, rfl⟩)
                 clear hK K
                 try simp only [Act.put, List.setIfInBounds_toArray, List.set_cons_zero, List.set_cons_succ])
                (refine HT.onlyL (i := 7) rfl (by kernel_rfl) (fun K hK => ?_)
                 ((apply Elem.step_one strE (s := .tmp 93) (x := .tmp 98) (base := w1.heap.size + 1) (l := _) (y := pk); (case' hgd => rfl); (case' ho => rfl); (case' hs => rfl); (case' hx => rfl); (case' hown => exact (hoA)); (case' hy => exact (fun j u hu => by rcases j with _ | j <;> simp [strE, strCell] at hu; subst hu; first | (go_simp; done) | exact newCell _ _ _ _ _)); (case' hl => exact (by omega)); (case' hbase => exact (by first | omega | (simp; try omega)))); intro v9 w9 hown9 hg9 hat9; have s9 := sA.step 3 rfl hown9 hg9 hat9; have hs9 := s9.hs)
                 refine hK.out _ _ ?_ (fun hHeld => ?_)
                 · (exact hS.out _ _ _ s9 ⟨rfl, rfl⟩)
                 clear hK K
                 try simp only [Act.put, List.setIfInBounds_toArray, List.set_cons_zero, List.set_cons_succ])
                refine HT.tail (by kernel_rfl) ?_
                simp only [List.drop_succ_cons, List.drop_zero]
                obtain ⟨A9, n9, c9, rfl⟩ := Owns.form3 hown9
                have sE := s9.set3 (.slice A9 n9 c9)
                obtain ⟨r0, r1, r2, r3, r4⟩ := s9.bx.cells
                have rf := s9.bx.frozen 3
                have rlt := s9.bx.lt
                clear hHeld hS sA hoA hown9 hat9 hg9 s9
                go_wp2_with fail
                generalize w9.setCell ⟨w1.heap.size, 3, none⟩ (.slice A9 n9 c9) = w10 at sE ⊢
                clear r0 r1 r2 r3 r4 rf rlt
                go_wp2_with fail
                go_roundw
                case rel => exact ⟨q + 1, a2, _, a4, by omega, by go_num, by rw [e2.out, e3.out, e4.out, hF0.out, hF1.out]; exact SF.part6 sE⟩
                case measure => simp [intOf]; omega
              · have g0 : ((ct : Int) == 0) = false := by simp; omega
                have g0' : decide ((0 : Int) < (ct : Int)) = true := by simp; omega
                have g0'' : decide (0 < ct) = true := by simp; omega
                by_cases h1 : ct = kk
                · have g1 : decide ((ct : Int) < (kk : Int)) = false := by simp; omega
                  have g1' : decide (ct < kk) = false := by simp; omega
                  have hs9 : staleP ⟨k, nn, next, sn, cs, ps⟩ L pk = false := by unfold staleP; rw [hk9, hi9]; simp [h1]
                  have hd9 : deadP ⟨k, nn, next, sn, cs, ps⟩ L pk = false := by unfold deadP; rw [hk9]; simp [h0]
                  have e2 : Hid ((PL.take (q + 1)).filter (staleP ⟨k, nn, next, sn, cs, ps⟩ L) = F2) := by unfold Hid; rw [ht.out, List.filter_append, hF2.out]; simp [hs9]
                  have e3 : Hid ((PL.take (q + 1)).filter (deadP ⟨k, nn, next, sn, cs, ps⟩ L) = F3) := by unfold Hid; rw [ht.out, List.filter_append, hF3.out]; simp [hd9]
                  have e4 : Hid (movedL ⟨k, nn, next, sn, cs, ps⟩ L (PL.take (q + 1)) = F4) := by unfold Hid; rw [ht.out, movedL_no hs9, hF4.out]
                  clear hs9 hd9
                  go_wp2_with fail
                  go_roundw
                  case rel => exact ⟨q + 1, a2, a3, a4, by omega, by go_num, by rw [e2.out, e3.out, e4.out, hF0.out, hF1.out]; exact SF.part6 sf⟩
                  case measure => simp [intOf]; omega
                · have g1 : decide ((ct : Int) < (kk : Int)) = true := by simp; omega
                  have g1' : decide (ct < kk) = true := by simp; omega
                  have hs9 : staleP ⟨k, nn, next, sn, cs, ps⟩ L pk = true := by unfold staleP; rw [hk9, hi9]; simp [h0, h1]
                  have hd9 : deadP ⟨k, nn, next, sn, cs, ps⟩ L pk = false := by unfold deadP; rw [hk9]; simp [h0, h1]
                  have e2 : Hid ((PL.take (q + 1)).filter (staleP ⟨k, nn, next, sn, cs, ps⟩ L) = F2 ++ [pk]) := by unfold Hid; rw [ht.out, List.filter_append, hF2.out]; simp [hs9]
                  have e3 : Hid ((PL.take (q + 1)).filter (deadP ⟨k, nn, next, sn, cs, ps⟩ L) = F3) := by unfold Hid; rw [ht.out, List.filter_append, hF3.out]; simp [hd9]
                  have e4 : Hid (movedL ⟨k, nn, next, sn, cs, ps⟩ L (PL.take (q + 1)) = F4 ++ D.filter (fun c => decide (c ∈ L))) := by unfold Hid; rw [ht.out, movedL_yes hs9, hF4.out, hD.out]; rfl
                  clear hs9 hd9
                  have hs0 := sf.hs
                  go_upto_region 24 with fail
                  have hS : Hid (∀ (W : World) (vs : List Value) (ls : List (List ByteArray)), SF 76 w1 W w1.heap.size a0 a1 a2 a3 a4 vs ls → vs[5]? = some (.slice (some ⟨b5, o5, none⟩) m c5) ∧ ls[5]? = some PL → (fun W : World => W.cell? ⟨w1.heap.size, 2, none⟩ = some (a2) ∧ W.cell? ⟨b5, o5 + q, none⟩ = some (.string pk)) W) := fun W vs ls sf he => ⟨sf.bx.cells.2.2.1, ((sf.own 5 he.1 he.2).row strCell_len).strAt hxk.out⟩
                  refine region_held_tail 8 (fun W : World => W.cell? ⟨w1.heap.size, 2, none⟩ = some (a2) ∧ W.cell? ⟨b5, o5 + q, none⟩ = some (.string pk)) (by kernel_rfl) (by kernel_rfl) ?_
                  have hHeld : (fun W : World => W.cell? ⟨w1.heap.size, 2, none⟩ = some (a2) ∧ W.cell? ⟨b5, o5 + q, none⟩ = some (.string pk)) wk.drew := hS.out _ _ _ sf.drew ⟨rfl, rfl⟩
                  have sA := sf.drew.alloc (.cells #[.string pk] 9)
                  have hsA := sA.hs
                  have hoA := sA.own 2 rfl rfl
                  (refine HT.takeL (i := 0) (v := ?_) rfl (by kernel_rfl) (fun _ _ _ h => h) (Or.inl ⟨by rfl, ?_⟩) (by assumption) ?_
                   rotate_left
                   · (intro w hSw; (try dsimp only at hSw); go_simp; (try with_reducible rfl))
                   try simp only [Act.put, List.setIfInBounds_toArray, List.set_cons_zero, List.set_cons_succ])
                  (refine HT.takeL (i := 1) (v := ?_) rfl (by kernel_rfl) (fun _ _ _ h => h) (Or.inl ⟨by rfl, ?_⟩) (by assumption) ?_
                   rotate_left
                   · (intro w hSw; (try dsimp only at hSw); go_simp; (try with_reducible rfl))
                   try simp only [Act.put, List.setIfInBounds_toArray, List.set_cons_zero, List.set_cons_succ])
                  (refine HT.takeL (i := 2) (v := ?_) rfl (by kernel_rfl) (fun _ _ _ h => h) (Or.inl ⟨by rfl, ?_⟩) (by assumption) ?_
                   rotate_left
                   · (intro w hSw; (try dsimp only at hSw); go_simp; (try with_reducible rfl))
                   try simp only [Act.put, List.setIfInBounds_toArray, List.set_cons_zero, List.set_cons_succ])
                  (refine HT.takeL (i := 3) (v := ?_) rfl (by kernel_rfl) (fun _ _ _ h => h) (Or.inl ⟨by rfl, ?_⟩) (by assumption) ?_
                   rotate_left
                   · (intro w hSw; (try dsimp only at hSw); go_simp; (try with_reducible rfl))
                   try simp only [Act.put, List.setIfInBounds_toArray, List.set_cons_zero, List.set_cons_succ])
                  (refine HT.takeL (i := 4) (v := ?_) rfl (by kernel_rfl) (fun _ _ _ h => h) (Or.inl ⟨by rfl, ?_⟩) (by assumption) ?_
                   rotate_left
                   · (intro w hSw; (try dsimp only at hSw); go_simp; (try with_reducible rfl))
                   try simp only [Act.put, List.setIfInBounds_toArray, List.set_cons_zero, List.set_cons_succ])
                  (refine HT.takeL (i := 5) (v := ?_) rfl (by kernel_rfl) (fun _ _ _ h => h) (Or.inl ⟨by rfl, ?_⟩) (by assumption) ?_
                   rotate_left
                   · (intro w hSw; (try dsimp only at hSw); go_simp; (try with_reducible rfl))
                   try simp only [Act.put, List.setIfInBounds_toArray, List.set_cons_zero, List.set_cons_succ])
                  (refine HT.onlyL (i := 6) rfl (by kernel_rfl) (fun K hK => ?_)
                   go_simp
                   refine hK.out _ _ ?_ (fun hHeld => ?_)
                   · (exact hS.out _ _ _ sA ⟨rfl, rfl⟩)
                   clear hK K
                   try simp only [Act.put, List.setIfInBounds_toArray, List.set_cons_zero, List.set_cons_succ])
                  (refine HT.onlyL (i := 7) rfl (by kernel_rfl) (fun K hK => ?_)
                   ((apply Elem.step_one strE (s := .tmp 110) (x := .tmp 115) (base := w1.heap.size + 1) (l := _) (y := pk); (case' hgd => rfl); (case' ho => rfl); (case' hs => rfl); (case' hx => rfl); (case' hown => exact (hoA)); (case' hy => exact (fun j u hu => by rcases j with _ | j <;> simp [strE, strCell] at hu; subst hu; first | (go_simp; done) | exact newCell _ _ _ _ _)); (case' hl => exact (by omega)); (case' hbase => exact (by first | omega | (simp; try omega)))); intro v9 w9 hown9 hg9 hat9; have s9 := sA.step 2 rfl hown9 hg9 hat9; have hs9 := s9.hs)
                   refine hK.out _ _ ?_ (fun hHeld => ?_)
                   · (exact hS.out _ _ _ s9 ⟨rfl, rfl⟩)
                   clear hK K
                   try simp only [Act.put, List.setIfInBounds_toArray, List.set_cons_zero, List.set_cons_succ])
                  refine HT.tail (by kernel_rfl) ?_
                  simp only [List.drop_succ_cons, List.drop_zero]
                  obtain ⟨A9, n9, c9, rfl⟩ := Owns.form3 hown9
                  have sE := s9.set2 (.slice A9 n9 c9)
                  obtain ⟨r0, r1, r2, r3, r4⟩ := s9.bx.cells
                  have rf := s9.bx.frozen 2
                  have rlt := s9.bx.lt
                  clear hHeld hS sA hoA hown9 hat9 hg9 s9
                  go_wp2_with fail
                  generalize w9.setCell ⟨w1.heap.size, 2, none⟩ (.slice A9 n9 c9) = w10 at sE ⊢
                  clear r0 r1 r2 r3 r4 rf rlt
                  obtain ⟨a2n, ha2n⟩ : ∃ x : Value, x = .slice A9 n9 c9 := ⟨_, rfl⟩
                  have sM : SF 76 w1 w10 w1.heap.size a0 a1 a2n a3 a4 [a0, a1, a2n, a3, a4, .slice (some ⟨b5, o5, none⟩) m c5, .slice A8 kk c8] [F0, F1, F2 ++ [pk], F3, F4, PL, D] := by rw [ha2n]; exact sE
                  replace ha2n := Lib.hid ha2n
                  clear sE sf hsf
                  go_wp2_with fail
                  go_loopw [16] (fun i wr => ∃ (k2 : Nat) (a4' : Value), k2 ≤ kk ∧ i = .int .i64 k2 ∧ SF 76 w1 wr w1.heap.size a0 a1 a2n a3 a4' [a0, a1, a2n, a3, a4', .slice (some ⟨b5, o5, none⟩) m c5, .slice A8 kk c8] [F0, F1, F2 ++ [pk], F3, F4 ++ (D.take k2).filter (fun c => decide (c ∈ L)), PL, D]) (fun i _ => kk - (intOf i).toNat)
                  case atStart => exact ⟨0, a4, Nat.zero_le _, rfl, by simpa using sM⟩
                  case round =>
                    obtain ⟨k2, a4, hk2, rfl, sf⟩ := hrel
                    obtain ⟨wm, rfl⟩ : ∃ x : World, x = wr := ⟨_, rfl⟩
                    clear sM
                    have hsf := sf.hs
                    by_cases hlt9 : k2 < kk
                    · have hki : (k2 : Int) < (kk : Int) := by omega
                      obtain ⟨b8, o8, d, rfl, hb8, hx, y0⟩ := ((sf.own 6 rfl rfl).row strCell_len).str hlt9
                      have hcall := ref24_Has A n c L d wm (rL.out.to sf.below)
                      have hn400 : kk ≤ 400 := by have := hn8.out; omega
                      have htk : D.take (k2 + 1) = D.take k2 ++ [d] := by rw [List.take_add_one, hx]; rfl
                      have hl5 : (F4 ++ (D.take k2).filter (fun c => decide (c ∈ L))).length ≤ 1000000 := by
                        have h1 := List.length_filter_le (fun c => decide (c ∈ L)) (D.take k2)
                        have h2 : (D.take k2).length ≤ 400 := by simp; omega
                        rw [List.length_append]
                        omega
                      replace hx := Lib.hid hx
                      cases hin : decide (d ∈ L)
                      · have hM : Hid (F4 ++ (D.take (k2 + 1)).filter (fun c => decide (c ∈ L)) = F4 ++ (D.take k2).filter (fun c => decide (c ∈ L))) := by unfold Hid; rw [htk, List.filter_append]; simp [hin]
                        rw [hin] at hcall
                        replace hin := Lib.hid hin
                        replace htk := Lib.hid htk
                        go_wp2_with fail
                        refine hcall.mono ?_
                        rintro e w7 ⟨rfl, hb7⟩
                        have s7 := sf.to hb7
                        go_wp2_with fail
                        go_roundw
                        case rel => exact ⟨k2 + 1, a4, by omega, by go_num, by rw [hM.out]; exact s7⟩
                        case measure => simp [intOf]; omega
                      · have hM : Hid (F4 ++ (D.take (k2 + 1)).filter (fun c => decide (c ∈ L)) = F4 ++ (D.take k2).filter (fun c => decide (c ∈ L)) ++ [d]) := by unfold Hid; rw [htk, List.filter_append]; simp [hin]
                        rw [hin] at hcall
                        replace hin := Lib.hid hin
                        replace htk := Lib.hid htk
                        go_wp2_with fail
                        refine hcall.mono ?_
                        rintro e w7 ⟨rfl, hb7⟩
                        have s7 := sf.to hb7
                        generalize F4 ++ (D.take k2).filter (fun c => decide (c ∈ L)) = FM at s7 hl5 hM
                        have hs0 := s7.hs
                        go_upto_region 29 with fail
                        have hS : Hid (∀ (W : World) (vs : List Value) (ls : List (List ByteArray)), SF 76 w1 W w1.heap.size a0 a1 a2n a3 a4 vs ls → vs[6]? = some (.slice (some ⟨b8, o8, none⟩) kk c8) ∧ ls[6]? = some D → (fun W : World => W.cell? ⟨w1.heap.size, 4, none⟩ = some (a4) ∧ W.cell? ⟨b8, o8 + k2, none⟩ = some (.string d)) W) := fun W vs ls sf he => ⟨sf.bx.cells.2.2.2.2, ((sf.own 6 he.1 he.2).row strCell_len).strAt hx.out⟩
                        refine region_held_tail 8 (fun W : World => W.cell? ⟨w1.heap.size, 4, none⟩ = some (a4) ∧ W.cell? ⟨b8, o8 + k2, none⟩ = some (.string d)) (by kernel_rfl) (by kernel_rfl) ?_
                        have hHeld : (fun W : World => W.cell? ⟨w1.heap.size, 4, none⟩ = some (a4) ∧ W.cell? ⟨b8, o8 + k2, none⟩ = some (.string d)) w7.drew := hS.out _ _ _ s7.drew ⟨rfl, rfl⟩
                        have sA := s7.drew.alloc (.cells #[.string d] 9)
                        have hsA := sA.hs
                        have hoA := sA.own 4 rfl rfl
                        (refine HT.takeL (i := 0) (v := ?_) rfl (by kernel_rfl) (fun _ _ _ h => h) (Or.inl ⟨by rfl, ?_⟩) (by assumption) ?_
                         rotate_left
                         · (intro w hSw; (try dsimp only at hSw); go_simp; (try with_reducible rfl))
                         try simp only [Act.put, List.setIfInBounds_toArray, List.set_cons_zero, List.set_cons_succ])
                        (refine HT.takeL (i := 1) (v := ?_) rfl (by kernel_rfl) (fun _ _ _ h => h) (Or.inl ⟨by rfl, ?_⟩) (by assumption) ?_
                         rotate_left
                         · (intro w hSw; (try dsimp only at hSw); go_simp; (try with_reducible rfl))
                         try simp only [Act.put, List.setIfInBounds_toArray, List.set_cons_zero, List.set_cons_succ])
                        (refine HT.takeL (i := 2) (v := ?_) rfl (by kernel_rfl) (fun _ _ _ h => h) (Or.inl ⟨by rfl, ?_⟩) (by assumption) ?_
                         rotate_left
                         · (intro w hSw; (try dsimp only at hSw); go_simp; (try with_reducible rfl))
                         try simp only [Act.put, List.setIfInBounds_toArray, List.set_cons_zero, List.set_cons_succ])
                        (refine HT.takeL (i := 3) (v := ?_) rfl (by kernel_rfl) (fun _ _ _ h => h) (Or.inl ⟨by rfl, ?_⟩) (by assumption) ?_
                         rotate_left
                         · (intro w hSw; (try dsimp only at hSw); go_simp; (try with_reducible rfl))
                         try simp only [Act.put, List.setIfInBounds_toArray, List.set_cons_zero, List.set_cons_succ])
                        (refine HT.takeL (i := 4) (v := ?_) rfl (by kernel_rfl) (fun _ _ _ h => h) (Or.inl ⟨by rfl, ?_⟩) (by assumption) ?_
                         rotate_left
                         · (intro w hSw; (try dsimp only at hSw); go_simp; (try with_reducible rfl))
                         try simp only [Act.put, List.setIfInBounds_toArray, List.set_cons_zero, List.set_cons_succ])
                        (refine HT.takeL (i := 5) (v := ?_) rfl (by kernel_rfl) (fun _ _ _ h => h) (Or.inl ⟨by rfl, ?_⟩) (by assumption) ?_
                         rotate_left
                         · (intro w hSw; (try dsimp only at hSw); go_simp; (try with_reducible rfl))
                         try simp only [Act.put, List.setIfInBounds_toArray, List.set_cons_zero, List.set_cons_succ])
                        (refine HT.onlyL (i := 6) rfl (by kernel_rfl) (fun K hK => ?_)
                         go_simp
                         refine hK.out _ _ ?_ (fun hHeld => ?_)
                         · (exact hS.out _ _ _ sA ⟨rfl, rfl⟩)
                         clear hK K
                         try simp only [Act.put, List.setIfInBounds_toArray, List.set_cons_zero, List.set_cons_succ])
                        (refine HT.onlyL (i := 7) rfl (by kernel_rfl) (fun K hK => ?_)
                         ((apply Elem.step_one strE (s := .tmp 131) (x := .tmp 136) (base := w1.heap.size + 1) (l := _) (y := d); (case' hgd => rfl); (case' ho => rfl); (case' hs => rfl); (case' hx => rfl); (case' hown => exact (hoA)); (case' hy => exact (fun j u hu => by rcases j with _ | j <;> simp [strE, strCell] at hu; subst hu; first | (go_simp; done) | exact newCell _ _ _ _ _)); (case' hl => exact (by omega)); (case' hbase => exact (by first | omega | (simp; try omega)))); intro v9 w9 hown9 hg9 hat9; have s9 := sA.step 4 rfl hown9 hg9 hat9; have hs9 := s9.hs)
                         refine hK.out _ _ ?_ (fun hHeld => ?_)
                         · (exact hS.out _ _ _ s9 ⟨rfl, rfl⟩)
                         clear hK K
                         try simp only [Act.put, List.setIfInBounds_toArray, List.set_cons_zero, List.set_cons_succ])
                        refine HT.tail (by kernel_rfl) ?_
                        simp only [List.drop_succ_cons, List.drop_zero]
                        obtain ⟨A9, n9, c9, rfl⟩ := Owns.form3 hown9
                        have sE := s9.set4 (.slice A9 n9 c9)
                        obtain ⟨r0, r1, r2, r3, r4⟩ := s9.bx.cells
                        have rf := s9.bx.frozen 4
                        have rlt := s9.bx.lt
                        clear hHeld hS sA hoA hown9 hat9 hg9 s9
                        go_wp2_with fail
                        generalize w9.setCell ⟨w1.heap.size, 4, none⟩ (.slice A9 n9 c9) = w10 at sE ⊢
                        clear r0 r1 r2 r3 r4 rf rlt
                        go_wp2_with fail
                        go_roundw
                        case rel => exact ⟨k2 + 1, _, by omega, by go_num, by rw [hM.out]; exact sE⟩
                        case measure => simp [intOf]; omega
                    · obtain rfl : k2 = kk := by omega
                      rw [hDt.out] at sf
                      go_wp2_with fail
                      go_roundw
                      case rel => exact ⟨q + 1, a2n, a3, a4, by omega, by go_num, by rw [e2.out, e3.out, e4.out, hF0.out, hF1.out]; exact SF.part6 sf⟩
                      case measure => simp [intOf]; omega
        · obtain rfl : q = m := by omega
          have htk : PL.take q = PL := List.take_of_length_le (by have := hml.out; omega)
          rw [htk] at sf
          replace htk := Lib.hid htk
          obtain ⟨A0, n0, c0, rfl⟩ := Owns.form3 (sf.own 0 rfl rfl)
          obtain ⟨A1, n1, c1, rfl⟩ := Owns.form3 (sf.own 1 rfl rfl)
          obtain ⟨A2, n2, c2, rfl⟩ := Owns.form3 (sf.own 2 rfl rfl)
          obtain ⟨A3, n3, c3, rfl⟩ := Owns.form3 (sf.own 3 rfl rfl)
          obtain ⟨A4, n4, c4, rfl⟩ := Owns.form3 (sf.own 4 rfl rfl)
          have r4 := (sf.own 4 rfl rfl).row strCell_len
          have hn4 : n4 ≤ 1000000 := by
            have h1 := movedL_len (s := ⟨k, nn, next, sn, cs, ps⟩) (L := L) hm.out PL
            have h2 := hml.out
            have h3 := r4.1
            omega
          obtain ⟨y0, y1, y2, y3, y4⟩ := sf.bx.cells
          have ly := sf.bx.lt
          go_wp2_with fail
          refine (ref20_Rising A4 n4 c4 _ wq r4 hn4).mono ?_
          rintro e w8 ⟨u, rfl, ou, hb8⟩
          obtain ⟨A6, n6, c6, rfl⟩ := Owns.form3 ou
          have hF := sf.fv.add hb8 sf.hs ou
          have s8 := sf.to hb8
          clear y0 y1 y2 y3 y4 ly sf r4 ou
          obtain ⟨y0, y1, y2, y3, y4⟩ := s8.bx.cells
          have ly := s8.bx.lt
          have fy := s8.bx.frozen 4
          have hs8 := s8.hs
          go_upto_region 31 with fail
          have s9 := s8.set4 (.slice A6 n6 c6)
          have hF9 := hF.setOther (b := w1.heap.size) (o := 4) (.slice A6 n6 c6) (by omega)
          clear y0 y1 y2 y3 y4 ly fy s8 hF
          generalize w8.setCell ⟨w1.heap.size, 4, none⟩ (.slice A6 n6 c6) = w9 at s9 hF9 ⊢
          have hend : Below w.heap.size w w9 := fw.trans (s9.below.mono (by omega))
          have rbs := rbx.out.below (by omega) s9.below
          obtain ⟨y0, y1, y2, y3, y4⟩ := s9.bx.cells
          have ly := s9.bx.lt
          obtain ⟨r0, r1, r2, r3, r4⟩ := rbs.cells
          have rlt := rbs.lt
          have e0 := rbs.frozen 0
          have e1 := rbs.frozen 1
          have e2 := rbs.frozen 2
          have e3 := rbs.frozen 3
          have e4 := rbs.frozen 4
          go_wp2_with fail
          exact bodyPost_ret (v := .tuple #[.agg #[.slice A0 n0 c0, .slice A1 n1 c1, .slice A2 n2 c2, .slice A3 n3 c3, .slice A6 n6 c6], .int .i64 0]) (by rw [results_cell_tmp Try.results43]; simp [go_sem, r0, r1, r2, r3, r4]) rfl
            ⟨_, _, _, _, _, by rw [hres.out], by
              rw [hres.out]
              unfold markSp
              rw [← hPL.out]
              have hF5 := Fives.sub (vs' := [.slice A0 n0 c0, .slice A1 n1 c1, .slice A2 n2 c2, .slice A3 n3 c3, .slice A6 n6 c6]) (ls' := [cs.filter (fun c => decide (c ∈ L)), cs.filter (fun c => !decide (c ∈ L)), PL.filter (staleP ⟨k, nn, next, sn, cs, ps⟩ L), PL.filter (deadP ⟨k, nn, next, sn, cs, ps⟩ L), setS (movedL ⟨k, nn, next, sn, cs, ps⟩ L PL)]) hF9 (fun i => if i = 4 then 6 else i) rfl
                (fun i j hi hj e => by
                  simp at hi hj
                  split at e <;> split at e <;> omega)
                (fun i hi => by rcases i with _ | _ | _ | _ | _ | i <;> first | rfl | (simp at hi; omega)) (fun i hi => by rcases i with _ | _ | _ | _ | _ | i <;> first | rfl | (simp at hi; omega))
              exact (((((hF5.setOther (b := w.heap.size + 1) (o := 0) _ (by omega)).setOther (b := w.heap.size + 1) (o := 1) _ (by omega)).setOther (b := w.heap.size + 1) (o := 2) _ (by omega)).setOther (b := w.heap.size + 1) (o := 3) _ (by omega)).setOther (b := w.heap.size + 1) (o := 4) _ (by omega)).from (by omega),
            ((((hend.setCell (p := ⟨w.heap.size + 1, 0, none⟩) (by simp) _).setCell (p := ⟨w.heap.size + 1, 1, none⟩) (by simp) _).setCell (p := ⟨w.heap.size + 1, 2, none⟩) (by simp) _).setCell (p := ⟨w.heap.size + 1, 3, none⟩) (by simp) _).setCell (p := ⟨w.heap.size + 1, 4, none⟩) (by simp) _⟩
end Go.Proofs.Ytcepdigeimedoaa
