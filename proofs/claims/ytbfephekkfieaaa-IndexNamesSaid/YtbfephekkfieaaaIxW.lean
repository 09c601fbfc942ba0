/-
  The walk of IndexNames. (Under way.)
-/
import Derived.Test.YtbfephekkfieaaaIxR
namespace Go.Proofs.Ytbfephekkfieaaa
open Go.RowKit
attribute [local go_sem ↓] Go.wp_at_zero Go.wp_at_succ

def ixCells (x : Place × Bool) : List Value := [.string x.1.pack, .int .i64 x.1.at_, .int .i64 x.1.len, .bool x.2]
theorem RowAt.ix {w : World} {B n b off : Nat} {l : List (Place × Bool)} (h : RowAt 4 ixCells w B (some ⟨b, off, none⟩) n l) {i : Nat} (hi : i < n) :
    ∃ x, l[i]? = some x ∧ b < B ∧ w.cell? ⟨b, off + i * 4, none⟩ = some (.string x.1.pack) ∧ w.cell? ⟨b, off + i * 4 + 1, none⟩ = some (.int .i64 x.1.at_) ∧ w.cell? ⟨b, off + i * 4 + 2, none⟩ = some (.int .i64 x.1.len) ∧ w.cell? ⟨b, off + i * 4 + 3, none⟩ = some (.bool x.2) := by
  obtain ⟨hl, _, hc⟩ := h
  obtain ⟨b', off', e, hb, hc⟩ := hc (by omega)
  simp only [Option.some.injEq, Addr.mk.injEq] at e
  obtain ⟨rfl, rfl, _⟩ := e
  have hx : l[i]? = some (l[i]'(by omega)) := List.getElem?_eq_getElem (by omega)
  exact ⟨_, hx, hb, hc i _ hx 0 _ rfl, hc i _ hx 1 _ rfl, hc i _ hx 2 _ rfl, hc i _ hx 3 _ rfl⟩

set_option maxHeartbeats 32000000 in
set_option maxRecDepth 100000 in
theorem indexNames_walk (w : World) : Calls Try.prog 4 #[] w fun e w' => e = .returned (.bool true) ∧ Below w.heap.size w w' := by
  go_enter Try.func4, Try.ntmps4
  go_wp2_with fail
  refine (law17_works w).mono ?_
  rintro e w1 ⟨rfl, b1⟩
  have hS := Nb.start b1
  clear b1
  go_wp2_with fail
  ((refine (law17_at 112 0 1 _).mono ?_
    rintro e wx ⟨rfl, hb⟩
    have hT := hS.below hb
    clear hS hb
    have hS := hT
    clear hT)
   go_wp2_with fail)
  ((refine (law17_at 112 16384 16384 _).mono ?_
    rintro e wx ⟨rfl, hb⟩
    have hT := hS.below hb
    clear hS hb
    have hS := hT
    clear hT)
   go_wp2_with fail)
  ((refine (law17_at 112 32767 1 _).mono ?_
    rintro e wx ⟨rfl, hb⟩
    have hT := hS.below hb
    clear hS hb
    have hS := hT
    clear hT)
   go_wp2_with fail)
  ((refine (law17_at 112 32768 1 _).mono ?_
    rintro e wx ⟨rfl, hb⟩
    have hT := hS.below hb
    clear hS hb
    have hS := hT
    clear hT)
   go_wp2_with fail)
  ((refine (law17_at 112 32767 2 _).mono ?_
    rintro e wx ⟨rfl, hb⟩
    have hT := hS.below hb
    clear hS hb
    have hS := hT
    clear hT)
   go_wp2_with fail)
  ((refine (law17_at 112 (-1) 1 _).mono ?_
    rintro e wx ⟨rfl, hb⟩
    have hT := hS.below hb
    clear hS hb
    have hS := hT
    clear hT)
   go_wp2_with fail)
  ((refine (law17_at 112 0 0 _).mono ?_
    rintro e wx ⟨rfl, hb⟩
    have hT := hS.below hb
    clear hS hb
    have hS := hT
    clear hT)
   go_wp2_with fail)
  ((refine (law17_at 112 0 16385 _).mono ?_
    rintro e wx ⟨rfl, hb⟩
    have hT := hS.below hb
    clear hS hb
    have hS := hT
    clear hT)
   go_wp2_with fail)
  ((refine (law17_d 112 _).mono ?_
    rintro e wx ⟨rfl, hb⟩
    have hT := hS.below hb
    clear hS hb
    have hS := hT
    clear hT)
   go_wp2_with fail)
  repeat (rename ¬ ((9223372036854775807 : Nat) < _) => hq; clear hq)
  have hN := hS.alloc (.cells (ixT.flatMap ixCells).toArray 44)
  clear hS
  generalize hg : wx.heap.size = qT at hN ⊢
  clear hg
  go_loopw [2, 3, 4, 5, 86] (fun _ _ _ _ ti wr => ∃ k : Nat, k ≤ 9 ∧ ti = .int .i64 k ∧ Nb w wr [(qT, .cells (ixT.flatMap ixCells).toArray 44)]) (fun _ _ _ _ ti _ => 9 - (intOf ti).toNat)
  case atStart => exact ⟨0, Nat.zero_le _, rfl, hN⟩
  clear hN
  obtain ⟨k, hk, rfl, hN⟩ := hrel
  obtain ⟨wp, rfl⟩ : ∃ x : World, x = wr := ⟨_, rfl⟩
  rcases Nat.lt_or_ge k 9 with hlt | hge
  case inl =>
    as_aux_lemma =>
      --L1
      have hrow : RowAt 4 ixCells wp wp.heap.size (some ⟨qT, 0, none⟩) 9 ixT := rowHeap (k := 4) (enc := ixCells) (l := ixT) (fun _ => rfl) hN.head (by decide)
      obtain ⟨x, hx, hb9, c0, c1, c2, c3⟩ := hrow.ix hlt
      have hmay := ixT_may (List.mem_of_getElem? hx)
      have hok := ixT_ok (List.mem_of_getElem? hx)
      simp only [Nat.zero_add] at c0 c1 c2 c3
      obtain ⟨⟨pk, pa, pl⟩, m⟩ := x
      dsimp only at c0 c1 c2 c3 hmay hok
      replace hx := Lib.hid hx
      replace hmay := Lib.hid hmay
      replace hok := Lib.hid hok
      clear hrow
      go_upto_region 6 with fail
      have hM := hN.alloc (.cells #[.string pk, .int .i64 pa, .int .i64 pl, .bool m] 44)
      clear hN c0 c1 c2 c3 hb9
      generalize hg : wp.heap.size = qx at hM ⊢
      clear hg
      generalize (wp.alloc (.cells #[.string pk, .int .i64 pa, .int .i64 pl, .bool m] 44)) = wE at hM ⊢
      have hxb := hM.head
      have lx : qx < wE.heap.size := (Array.getElem?_eq_some_iff.1 hxb).1
      have e0 := cell_of_row wE qx 0 _ _ _ hxb
      have e1 := cell_of_row wE qx 1 _ _ _ hxb
      have e2 := cell_of_row wE qx 2 _ _ _ hxb
      replace hM := Lib.hid hM
      replace hxb := Lib.hid hxb
      refine region_krip (fun W : World => Below wE.heap.size wE W) (by kernel_rfl) ((Below.refl _ _).drew) ?_
      (refine kF.takeL (i := 2) (v := ?_) rfl (by kernel_rfl) (fun _ _ _ h => h) (Or.inl ⟨by rfl, ?_⟩) ?_
       rotate_left
       · (intro wS hSw; (try dsimp only at hSw); have hcS := fun b o (h : b < wE.heap.size) => hSw.cell (p := ⟨b, o, none⟩) h; go_simp; (try with_reducible rfl))
       try simp only [Act.put, List.setIfInBounds_toArray, List.set_cons_zero, List.set_cons_succ])
      (refine kF.takeL (i := 3) (v := ?_) rfl (by kernel_rfl) (fun _ _ _ h => h) (Or.inl ⟨by rfl, ?_⟩) ?_
       rotate_left
       · (intro wS hSw; (try dsimp only at hSw); have hcS := fun b o (h : b < wE.heap.size) => hSw.cell (p := ⟨b, o, none⟩) h; go_simp; (try with_reducible rfl))
       try simp only [Act.put, List.setIfInBounds_toArray, List.set_cons_zero, List.set_cons_succ])
      (refine kF.newL (i := 6) (fun b => .pointer (some ⟨b, 0, none⟩)) (.cells #[.int .i64 0, .int .i64 0, .int .i64 0, .slice none 0 0, .slice none 0 0, .slice none 0 0] 29) rfl (by kernel_rfl) (by rfl) ?_ ?_
       · (intro wS; go_simp; (try with_reducible rfl)))
      (refine kF.newL (i := 4) (fun b => .slice (some ⟨b, 0, none⟩) 1 1) (.cells #[.string pk, .int .i64 pa, .int .i64 pl] 35) rfl (by kernel_rfl) (by rfl) ?_ ?_
       · (intro wS; go_simp; (try with_reducible rfl)))
      (refine kF.onlyL (j := 0) rfl (by kernel_rfl) (fun _ _ _ _ _ => Iff.rfl) (fun _ _ h1 h2 => below_S (Nat.le_refl _) h1 h2) (fun k0 hbk0 hek0 hSk0 K hK => ?_)
       (go_simp; refine (law17_d 97 _).mono ?_; rintro e m0 ⟨rfl, hb0⟩)
       refine hK.out _ _ (below_S (Nat.le_refl _) hSk0 hb0) (.inr (.inl hb0)) ?_
       clear hK K hek0
       try simp only [Act.put, List.setIfInBounds_toArray, List.set_cons_zero, List.set_cons_succ])
      (refine kF.newL (i := 1) (fun b => .slice (some ⟨b, 0, none⟩) 1 1) (.cells #[.string (letterRoot 97)] 9) rfl (by kernel_rfl) (by rfl) ?_ ?_
       · (intro wS; go_simp; (try with_reducible rfl)))
      (refine kF.settleL (by kernel_rfl) (fun _ _ _ _ _ => Iff.rfl) (fun _ _ h1 h2 => below_S (Nat.le_refl _) h1 h2) (fun u1 hbu1 hSu1 v hv => ?_)
       obtain ⟨bu1, hBu1, rfl, hxu1⟩ := hv
       try simp only [Act.put, List.setIfInBounds_toArray, List.set_cons_zero, List.set_cons_succ])
      (refine kF.settleL (by kernel_rfl) (fun _ _ _ _ _ => Iff.rfl) (fun _ _ h1 h2 => below_S (Nat.le_refl _) h1 h2) (fun u4 hbu4 hSu4 v hv => ?_)
       obtain ⟨bu4, hBu4, rfl, hxu4⟩ := hv
       try simp only [Act.put, List.setIfInBounds_toArray, List.set_cons_zero, List.set_cons_succ])
      (refine kF.takeL (i := 5) (v := ?_) rfl (by kernel_rfl) (fun _ _ _ h => h) (Or.inl ⟨by rfl, ?_⟩) ?_
       rotate_left
       · (intro wS hSw; (try dsimp only at hSw); have hcS := fun b o (h : b < wE.heap.size) => hSw.cell (p := ⟨b, o, none⟩) h; go_simp; (try with_reducible rfl))
       try simp only [Act.put, List.setIfInBounds_toArray, List.set_cons_zero, List.set_cons_succ])
      (refine kF.settleL (by kernel_rfl) (fun _ _ _ _ _ => Iff.rfl) (fun _ _ h1 h2 => below_S (Nat.le_refl _) h1 h2) (fun u6 hbu6 hSu6 v hv => ?_)
       obtain ⟨bu6, hBu6, rfl, hxu6⟩ := hv
       try simp only [Act.put, List.setIfInBounds_toArray, List.set_cons_zero, List.set_cons_succ])
      obtain ⟨l6, z0, z1, z2, z3, z4, z5, fz⟩ := box_cells hxu6
      have y0 := fz 0
      have y1 := fz 1
      have y2 := fz 2
      have y3 := fz 3
      have y4 := fz 4
      have y5 := fz 5
      clear fz
      (refine kF.lastL (j := 7) rfl (by kernel_rfl) (fun _ _ _ _ _ => Iff.rfl) (fun _ _ h1 h2 => below_S (Nat.le_refl _) h1 h2) (fun hSk K hK => ?_)
       go_simp
       refine hK.out _ _ (below6 hSk hBu6) ?_
       clear hK K
       try simp only [Act.put, List.setIfInBounds_toArray, List.set_cons_zero, List.set_cons_succ])
      refine kF.done (by kernel_rfl) ?_
      have lu1 := (Array.getElem?_eq_some_iff.1 hxu1).1
      have lu4 := (Array.getElem?_eq_some_iff.1 hxu4).1
      have ku4 : u6.heap[bu4]? = some (.cells (([⟨pk, pa, pl⟩] : List Place).flatMap Place.cells).toArray 35) := (hbu6.block _ lu4).trans hxu4
      have ku1 : u6.heap[bu1]? = some (.cells (([kA] : List ByteArray).flatMap strCell).toArray 9) := (hbu6.block _ (Nat.lt_of_lt_of_le lu1 hbu4.size)).trans ((hbu4.block _ lu1).trans hxu1)
      have n1 : bu1 ≠ bu6 := fun e => by rw [e, hxu6] at ku1; simp at ku1
      have n4 : bu4 ≠ bu6 := fun e => by rw [e, hxu6] at ku4; simp at ku4
      have hwz := hM.out.bel.size
      have hz1 := hSu1.size
      have hzd : wE.drew.heap.size = wE.heap.size := rfl
      have hF : Nb w ((((((u6.setCell ⟨bu6, 0, none⟩ (.int .i64 0)).setCell ⟨bu6, 1, none⟩ (.int .i64 0)).setCell ⟨bu6, 2, none⟩ (.int .i64 0)).setCell ⟨bu6, 3, none⟩ (.slice none 0 0)).setCell ⟨bu6, 4, none⟩ (.slice (some ⟨bu1, 0, none⟩) 1 1)).setCell ⟨bu6, 5, none⟩ (.slice (some ⟨bu4, 0, none⟩) 1 1)) [(bu6, .cells #[.int .i64 0, .int .i64 0, .int .i64 0, .slice none 0 0, .slice (some ⟨bu1, 0, none⟩) 1 1, .slice (some ⟨bu4, 0, none⟩) 1 1] 29), (bu1, .cells (([kA] : List ByteArray).flatMap strCell).toArray 9), (bu4, .cells (([⟨pk, pa, pl⟩] : List Place).flatMap Place.cells).toArray 35), (qx, .cells #[.string pk, .int .i64 pa, .int .i64 pl, .bool m] 44), (qT, .cells (ixT.flatMap ixCells).toArray 44)] :=
        (((hM.out.below (below6 hSk hBu6)).cons ((heap6_other n4).trans ku4) (by omega)).cons ((heap6_other n1).trans ku1) (by have := hbk0.size; have := hb0.size; omega)).cons (heap6 hxu6) (by omega)
      generalize ((((((u6.setCell ⟨bu6, 0, none⟩ (.int .i64 0)).setCell ⟨bu6, 1, none⟩ (.int .i64 0)).setCell ⟨bu6, 2, none⟩ (.int .i64 0)).setCell ⟨bu6, 3, none⟩ (.slice none 0 0)).setCell ⟨bu6, 4, none⟩ (.slice (some ⟨bu1, 0, none⟩) 1 1)).setCell ⟨bu6, 5, none⟩ (.slice (some ⟨bu4, 0, none⟩) 1 1)) = wF at hF ⊢
      clear ku1 ku4 n1 n4 hwz hz1 hzd lu1 lu4 hxu1 hxu4 hxu6 hbu1 hbu4 hbu6 hSu1 hSu4 hSu6 hBu1 hBu4 hBu6 hSk hSk0 hb0 hbk0 z0 z1 z2 z3 z4 z5 y0 y1 y2 y3 y4 y5 l6 hM hxb lx e0 e1 e2
      have rA : StrsAt wF wF.heap.size (some ⟨bu1, 0, none⟩) 1 [kA] := rowHeap (k := 1) (enc := strCell) (l := [kA]) (T := 9) (fun _ => rfl) (hF.mem (q := bu1) (o := .cells (([kA] : List ByteArray).flatMap strCell).toArray 9) (by simp)) (by decide)
      have rP : PlacesAt wF wF.heap.size (some ⟨bu4, 0, none⟩) 1 [⟨pk, pa, pl⟩] := rowHeap (k := 3) (enc := Place.cells) (l := [⟨pk, pa, pl⟩]) (T := 35) (fun _ => rfl) (hF.mem (q := bu4) (o := .cells (([⟨pk, pa, pl⟩] : List Place).flatMap Place.cells).toArray 35) (by simp)) (by simp)
      have hokl : ∀ p ∈ [(⟨pk, pa, pl⟩ : Place)], PlaceOk p := by intro p hp; simp at hp; subst hp; exact hok.out
      have hA := index_Add ⟨none, 0, 0, none, 0, 0, none, 0, 0⟩ stNone (some ⟨bu1, 0, none⟩) 1 1 [kA] (some ⟨bu4, 0, none⟩) 1 1 [⟨pk, pa, pl⟩] wF ⟨RowAt.none_, RowAt.none_, RowAt.none_, fun p hp => absurd hp List.not_mem_nil⟩ rA rP hokl (by omega)
      rw [one_add, hmay.out] at hA
      have hY := Lib.hid fun W (hW : Below wF.heap.size wF W) => index_May 0 0 0 none 0 0 (some ⟨bu1, 0, none⟩) 1 1 (some ⟨bu4, 0, none⟩) 1 1 [kA] [⟨pk, pa, pl⟩] W (rA.to hW) (rP.to hW) hokl
      rw [one_may, hmay.out] at hY
      unfold Rws.val stv at hA
      unfold stv at hY
      unfold stNone at hA
      dsimp only at hA
      obtain ⟨l6, z0, z1, z2, z3, z4, z5, -⟩ := box_cells (hF.mem (q := bu6) (o := .cells #[.int .i64 0, .int .i64 0, .int .i64 0, .slice none 0 0, .slice (some ⟨bu1, 0, none⟩) 1 1, .slice (some ⟨bu4, 0, none⟩) 1 1] 29) (by simp))
      clear rA rP hokl
      replace hF := Lib.hid hF
      cases m with
      | true =>
        go_wp2_with fail
        refine hA.mono ?_
        rintro e w8 ⟨⟨B1, m1, d1, B2, m2, d2, B3, m3, d3⟩, rfl, hao⟩
        have h8 := (hF.out.below hao.below).alloc (.cells #[.int .i64 0, .int .i64 0, .int .i64 0, .slice B1 m1 d1, .slice B2 m2 d2, .slice B3 m3 d3] 29)
        have hb8 : Below wF.heap.size wF (w8.alloc (.cells #[.int .i64 0, .int .i64 0, .int .i64 0, .slice B1 m1 d1, .slice B2 m2 d2, .slice B3 m3 d3] 29)) := hao.below.alloc hao.below.size _
        clear hA hao
        (try dsimp only)
        go_upto_region 8 with fail
        generalize hg : w8.heap.size = q8 at h8 ⊢
        clear hg
        generalize (w8.alloc (.cells #[.int .i64 0, .int .i64 0, .int .i64 0, .slice B1 m1 d1, .slice B2 m2 d2, .slice B3 m3 d3] 29)) = wG at h8 hb8 ⊢
        clear l6 z0 z1 z2 z3 z4 z5
        obtain ⟨l6, z0, z1, z2, z3, z4, z5, -⟩ := box_cells (h8.mem (q := bu6) (o := .cells #[.int .i64 0, .int .i64 0, .int .i64 0, .slice none 0 0, .slice (some ⟨bu1, 0, none⟩) 1 1, .slice (some ⟨bu4, 0, none⟩) 1 1] 29) (by simp))
        have hqx := h8.mem (q := qx) (o := .cells #[.string pk, .int .i64 pa, .int .i64 pl, .bool true] 44) (by simp)
        have lx : qx < wG.heap.size := (Array.getElem?_eq_some_iff.1 hqx).1
        have e3 := cell_of_row wG qx 3 _ _ _ hqx
        have hY8 := Lib.hid fun W (hW : Below wG.heap.size wG W) => hY.out W (hb8.trans (hW.mono hb8.size))
        replace hqx := Lib.hid hqx
        replace h8 := Lib.hid h8
        replace hb8 := Lib.hid hb8
        refine region_krip (fun W : World => Below wG.heap.size wG W) (by kernel_rfl) ((Below.refl _ _).drew) ?_
        (refine kF.takeL (i := 0) (v := ?_) rfl (by kernel_rfl) (fun _ _ _ h => h) (Or.inl ⟨by rfl, ?_⟩) ?_
         rotate_left
         · (intro wS hSw; (try dsimp only at hSw); have hcS := fun b o (h : b < wG.heap.size) => hSw.cell (p := ⟨b, o, none⟩) h; go_simp; (try with_reducible rfl))
         try simp only [Act.put, List.setIfInBounds_toArray, List.set_cons_zero, List.set_cons_succ])
        (refine kF.takeL (i := 2) (v := ?_) rfl (by kernel_rfl) (fun _ _ _ h => h) (Or.inl ⟨by rfl, ?_⟩) ?_
         rotate_left
         · (intro wS hSw; (try dsimp only at hSw); have hcS := fun b o (h : b < wG.heap.size) => hSw.cell (p := ⟨b, o, none⟩) h; go_simp; (try with_reducible rfl))
         try simp only [Act.put, List.setIfInBounds_toArray, List.set_cons_zero, List.set_cons_succ])
        (refine kF.takeL (i := 3) (v := ?_) rfl (by kernel_rfl) (fun _ _ _ h => h) (Or.inl ⟨by rfl, ?_⟩) ?_
         rotate_left
         · (intro wS hSw; (try dsimp only at hSw); have hcS := fun b o (h : b < wG.heap.size) => hSw.cell (p := ⟨b, o, none⟩) h; go_simp; (try with_reducible rfl))
         try simp only [Act.put, List.setIfInBounds_toArray, List.set_cons_zero, List.set_cons_succ])
        (refine kF.lastL (j := 1) rfl (by kernel_rfl) (fun _ _ _ _ _ => Iff.rfl) (fun _ _ h1 h2 => below_S (Nat.le_refl _) h1 h2) (fun hSk K hK => ?_)
         (go_simp; refine (hY8.out _ hSk).mono ?_; rintro e k1 ⟨rfl, hk1⟩)
         refine hK.out _ _ (below_S (Nat.le_refl _) hSk hk1) ?_
         clear hK K
         try simp only [Act.put, List.setIfInBounds_toArray, List.set_cons_zero, List.set_cons_succ])
        (refine kF.takeL (i := 4) (v := ?_) rfl (by kernel_rfl) (fun _ _ _ h => h) (Or.inl ⟨by rfl, ?_⟩) ?_
         rotate_left
         · (intro wS hSw; (try dsimp only at hSw); have hcS := fun b o (h : b < wG.heap.size) => hSw.cell (p := ⟨b, o, none⟩) h; go_simp; (try with_reducible rfl))
         try simp only [Act.put, List.setIfInBounds_toArray, List.set_cons_zero, List.set_cons_succ])
        (refine kF.takeL (i := 5) (v := ?_) rfl (by kernel_rfl) (fun _ _ _ h => h) (Or.inl ⟨by rfl, ?_⟩) ?_
         rotate_left
         · (intro wS hSw; (try dsimp only at hSw); have hcS := fun b o (h : b < wG.heap.size) => hSw.cell (p := ⟨b, o, none⟩) h; go_simp; (try with_reducible rfl))
         try simp only [Act.put, List.setIfInBounds_toArray, List.set_cons_zero, List.set_cons_succ])
        (refine kF.takeL (i := 6) (v := ?_) rfl (by kernel_rfl) (fun _ _ _ h => h) (Or.inl ⟨by rfl, ?_⟩) ?_
         rotate_left
         · (intro wS hSw; (try dsimp only at hSw); have hcS := fun b o (h : b < wG.heap.size) => hSw.cell (p := ⟨b, o, none⟩) h; go_simp; (try with_reducible rfl))
         try simp only [Act.put, List.setIfInBounds_toArray, List.set_cons_zero, List.set_cons_succ])
        (refine kF.takeL (i := 7) (v := ?_) rfl (by kernel_rfl) (fun _ _ _ h => h) (Or.inl ⟨by rfl, ?_⟩) ?_
         rotate_left
         · (intro wS hSw; (try dsimp only at hSw); have hcS := fun b o (h : b < wG.heap.size) => hSw.cell (p := ⟨b, o, none⟩) h; go_simp; (try with_reducible rfl))
         try simp only [Act.put, List.setIfInBounds_toArray, List.set_cons_zero, List.set_cons_succ])
        (refine kF.takeL (i := 8) (v := ?_) rfl (by kernel_rfl) (fun _ _ _ h => h) (Or.inl ⟨by rfl, ?_⟩) ?_
         rotate_left
         · (intro wS hSw; (try dsimp only at hSw); have hcS := fun b o (h : b < wG.heap.size) => hSw.cell (p := ⟨b, o, none⟩) h; go_simp; (try with_reducible rfl))
         try simp only [Act.put, List.setIfInBounds_toArray, List.set_cons_zero, List.set_cons_succ])
        (refine kF.takeL (i := 9) (v := ?_) rfl (by kernel_rfl) (fun _ _ _ h => h) (Or.inl ⟨by rfl, ?_⟩) ?_
         rotate_left
         · (intro wS hSw; (try dsimp only at hSw); have hcS := fun b o (h : b < wG.heap.size) => hSw.cell (p := ⟨b, o, none⟩) h; go_simp; (try with_reducible rfl))
         try simp only [Act.put, List.setIfInBounds_toArray, List.set_cons_zero, List.set_cons_succ])
        (refine kF.takeL (i := 10) (v := ?_) rfl (by kernel_rfl) (fun _ _ _ h => h) (Or.inl ⟨by rfl, ?_⟩) ?_
         rotate_left
         · (intro wS hSw; (try dsimp only at hSw); have hcS := fun b o (h : b < wG.heap.size) => hSw.cell (p := ⟨b, o, none⟩) h; go_simp; (try with_reducible rfl))
         try simp only [Act.put, List.setIfInBounds_toArray, List.set_cons_zero, List.set_cons_succ])
        (refine kF.takeL (i := 11) (v := ?_) rfl (by kernel_rfl) (fun _ _ _ h => h) (Or.inl ⟨by rfl, ?_⟩) ?_
         rotate_left
         · (intro wS hSw; (try dsimp only at hSw); have hcS := fun b o (h : b < wG.heap.size) => hSw.cell (p := ⟨b, o, none⟩) h; go_simp; (try with_reducible rfl))
         try simp only [Act.put, List.setIfInBounds_toArray, List.set_cons_zero, List.set_cons_succ])
        (refine kF.takeL (i := 12) (v := ?_) rfl (by kernel_rfl) (fun _ _ _ h => h) (Or.inl ⟨by rfl, ?_⟩) ?_
         rotate_left
         · (intro wS hSw; (try dsimp only at hSw); have hcS := fun b o (h : b < wG.heap.size) => hSw.cell (p := ⟨b, o, none⟩) h; go_simp; (try with_reducible rfl))
         try simp only [Act.put, List.setIfInBounds_toArray, List.set_cons_zero, List.set_cons_succ])
        (refine kF.takeL (i := 13) (v := ?_) rfl (by kernel_rfl) (fun _ _ _ h => h) (Or.inl ⟨by rfl, ?_⟩) ?_
         rotate_left
         · (intro wS hSw; (try dsimp only at hSw); have hcS := fun b o (h : b < wG.heap.size) => hSw.cell (p := ⟨b, o, none⟩) h; go_simp; (try with_reducible rfl))
         try simp only [Act.put, List.setIfInBounds_toArray, List.set_cons_zero, List.set_cons_succ])
        (refine kF.takeL (i := 14) (v := ?_) rfl (by kernel_rfl) (fun _ _ _ h => h) (Or.inl ⟨by rfl, ?_⟩) ?_
         rotate_left
         · (intro wS hSw; (try dsimp only at hSw); have hcS := fun b o (h : b < wG.heap.size) => hSw.cell (p := ⟨b, o, none⟩) h; go_simp; (try with_reducible rfl))
         try simp only [Act.put, List.setIfInBounds_toArray, List.set_cons_zero, List.set_cons_succ])
        (refine kF.takeL (i := 15) (v := ?_) rfl (by kernel_rfl) (fun _ _ _ h => h) (Or.inl ⟨by rfl, ?_⟩) ?_
         rotate_left
         · (intro wS hSw; (try dsimp only at hSw); have hcS := fun b o (h : b < wG.heap.size) => hSw.cell (p := ⟨b, o, none⟩) h; go_simp; (try with_reducible rfl))
         try simp only [Act.put, List.setIfInBounds_toArray, List.set_cons_zero, List.set_cons_succ])
        (refine kF.takeL (i := 16) (v := ?_) rfl (by kernel_rfl) (fun _ _ _ h => h) (Or.inl ⟨by rfl, ?_⟩) ?_
         rotate_left
         · (intro wS hSw; (try dsimp only at hSw); have hcS := fun b o (h : b < wG.heap.size) => hSw.cell (p := ⟨b, o, none⟩) h; go_simp; (try with_reducible rfl))
         try simp only [Act.put, List.setIfInBounds_toArray, List.set_cons_zero, List.set_cons_succ])
        (refine kF.takeL (i := 17) (v := undef) rfl (by kernel_rfl) (fun _ _ _ h => h) (Or.inr ⟨by rfl, rfl⟩) ?_
         try simp only [Act.put, List.setIfInBounds_toArray, List.set_cons_zero, List.set_cons_succ])
        (refine kF.takeL (i := 18) (v := undef) rfl (by kernel_rfl) (fun _ _ _ h => h) (Or.inr ⟨by rfl, rfl⟩) ?_
         try simp only [Act.put, List.setIfInBounds_toArray, List.set_cons_zero, List.set_cons_succ])
        (refine kF.takeL (i := 19) (v := ?_) rfl (by kernel_rfl) (fun _ _ _ h => h) (Or.inl ⟨by rfl, ?_⟩) ?_
         rotate_left
         · (intro wS hSw; (try dsimp only at hSw); have hcS := fun b o (h : b < wG.heap.size) => hSw.cell (p := ⟨b, o, none⟩) h; go_simp; (try with_reducible rfl))
         try simp only [Act.put, List.setIfInBounds_toArray, List.set_cons_zero, List.set_cons_succ])
        (refine kF.takeL (i := 20) (v := ?_) rfl (by kernel_rfl) (fun _ _ _ h => h) (Or.inl ⟨by rfl, ?_⟩) ?_
         rotate_left
         · (intro wS hSw; (try dsimp only at hSw); have hcS := fun b o (h : b < wG.heap.size) => hSw.cell (p := ⟨b, o, none⟩) h; go_simp; (try with_reducible rfl))
         try simp only [Act.put, List.setIfInBounds_toArray, List.set_cons_zero, List.set_cons_succ])
        refine kF.done (by kernel_rfl) ?_
        have hN := (h8.out.below (hSk.trans (hk1.mono hSk.size))).sub (l' := [(qT, .cells (ixT.flatMap ixCells).toArray 44)]) (by simp)
        clear h8 hk1 hSk l6 z0 z1 z2 z3 z4 z5 e3 lx hqx hb8 hY8
        go_wp2_with fail
        go_roundw
        case rel => exact ⟨k + 1, by omega, by go_num, hN⟩
        case measure => simp [intOf]; omega
      | false =>
        go_wp2_with fail
        refine hA.mono ?_
        rintro e w8 ⟨⟨B1, m1, d1, B2, m2, d2, B3, m3, d3⟩, rfl, hao⟩
        have h8 := (hF.out.below hao.below).alloc (.cells #[.int .i64 0, .int .i64 0, .int .i64 0, .slice B1 m1 d1, .slice B2 m2 d2, .slice B3 m3 d3] 29)
        have hb8 : Below wF.heap.size wF (w8.alloc (.cells #[.int .i64 0, .int .i64 0, .int .i64 0, .slice B1 m1 d1, .slice B2 m2 d2, .slice B3 m3 d3] 29)) := hao.below.alloc hao.below.size _
        clear hA hao
        (try dsimp only)
        go_upto_region 8 with fail
        generalize hg : w8.heap.size = q8 at h8 ⊢
        clear hg
        generalize (w8.alloc (.cells #[.int .i64 0, .int .i64 0, .int .i64 0, .slice B1 m1 d1, .slice B2 m2 d2, .slice B3 m3 d3] 29)) = wG at h8 hb8 ⊢
        clear l6 z0 z1 z2 z3 z4 z5
        obtain ⟨l6, z0, z1, z2, z3, z4, z5, -⟩ := box_cells (h8.mem (q := bu6) (o := .cells #[.int .i64 0, .int .i64 0, .int .i64 0, .slice none 0 0, .slice (some ⟨bu1, 0, none⟩) 1 1, .slice (some ⟨bu4, 0, none⟩) 1 1] 29) (by simp))
        have hqx := h8.mem (q := qx) (o := .cells #[.string pk, .int .i64 pa, .int .i64 pl, .bool false] 44) (by simp)
        have lx : qx < wG.heap.size := (Array.getElem?_eq_some_iff.1 hqx).1
        have e3 := cell_of_row wG qx 3 _ _ _ hqx
        have hY8 := Lib.hid fun W (hW : Below wG.heap.size wG W) => hY.out W (hb8.trans (hW.mono hb8.size))
        replace hqx := Lib.hid hqx
        replace h8 := Lib.hid h8
        replace hb8 := Lib.hid hb8
        refine region_krip (fun W : World => Below wG.heap.size wG W) (by kernel_rfl) ((Below.refl _ _).drew) ?_
        (refine kF.takeL (i := 0) (v := ?_) rfl (by kernel_rfl) (fun _ _ _ h => h) (Or.inl ⟨by rfl, ?_⟩) ?_
         rotate_left
         · (intro wS hSw; (try dsimp only at hSw); have hcS := fun b o (h : b < wG.heap.size) => hSw.cell (p := ⟨b, o, none⟩) h; go_simp; (try with_reducible rfl))
         try simp only [Act.put, List.setIfInBounds_toArray, List.set_cons_zero, List.set_cons_succ])
        (refine kF.takeL (i := 2) (v := ?_) rfl (by kernel_rfl) (fun _ _ _ h => h) (Or.inl ⟨by rfl, ?_⟩) ?_
         rotate_left
         · (intro wS hSw; (try dsimp only at hSw); have hcS := fun b o (h : b < wG.heap.size) => hSw.cell (p := ⟨b, o, none⟩) h; go_simp; (try with_reducible rfl))
         try simp only [Act.put, List.setIfInBounds_toArray, List.set_cons_zero, List.set_cons_succ])
        (refine kF.takeL (i := 3) (v := ?_) rfl (by kernel_rfl) (fun _ _ _ h => h) (Or.inl ⟨by rfl, ?_⟩) ?_
         rotate_left
         · (intro wS hSw; (try dsimp only at hSw); have hcS := fun b o (h : b < wG.heap.size) => hSw.cell (p := ⟨b, o, none⟩) h; go_simp; (try with_reducible rfl))
         try simp only [Act.put, List.setIfInBounds_toArray, List.set_cons_zero, List.set_cons_succ])
        (refine kF.lastL (j := 1) rfl (by kernel_rfl) (fun _ _ _ _ _ => Iff.rfl) (fun _ _ h1 h2 => below_S (Nat.le_refl _) h1 h2) (fun hSk K hK => ?_)
         (go_simp; refine (hY8.out _ hSk).mono ?_; rintro e k1 ⟨rfl, hk1⟩)
         refine hK.out _ _ (below_S (Nat.le_refl _) hSk hk1) ?_
         clear hK K
         try simp only [Act.put, List.setIfInBounds_toArray, List.set_cons_zero, List.set_cons_succ])
        (refine kF.takeL (i := 4) (v := ?_) rfl (by kernel_rfl) (fun _ _ _ h => h) (Or.inl ⟨by rfl, ?_⟩) ?_
         rotate_left
         · (intro wS hSw; (try dsimp only at hSw); have hcS := fun b o (h : b < wG.heap.size) => hSw.cell (p := ⟨b, o, none⟩) h; go_simp; (try with_reducible rfl))
         try simp only [Act.put, List.setIfInBounds_toArray, List.set_cons_zero, List.set_cons_succ])
        (refine kF.takeL (i := 5) (v := ?_) rfl (by kernel_rfl) (fun _ _ _ h => h) (Or.inl ⟨by rfl, ?_⟩) ?_
         rotate_left
         · (intro wS hSw; (try dsimp only at hSw); have hcS := fun b o (h : b < wG.heap.size) => hSw.cell (p := ⟨b, o, none⟩) h; go_simp; (try with_reducible rfl))
         try simp only [Act.put, List.setIfInBounds_toArray, List.set_cons_zero, List.set_cons_succ])
        (refine kF.takeL (i := 6) (v := ?_) rfl (by kernel_rfl) (fun _ _ _ h => h) (Or.inl ⟨by rfl, ?_⟩) ?_
         rotate_left
         · (intro wS hSw; (try dsimp only at hSw); have hcS := fun b o (h : b < wG.heap.size) => hSw.cell (p := ⟨b, o, none⟩) h; go_simp; (try with_reducible rfl))
         try simp only [Act.put, List.setIfInBounds_toArray, List.set_cons_zero, List.set_cons_succ])
        (refine kF.takeL (i := 7) (v := ?_) rfl (by kernel_rfl) (fun _ _ _ h => h) (Or.inl ⟨by rfl, ?_⟩) ?_
         rotate_left
         · (intro wS hSw; (try dsimp only at hSw); have hcS := fun b o (h : b < wG.heap.size) => hSw.cell (p := ⟨b, o, none⟩) h; go_simp; (try with_reducible rfl))
         try simp only [Act.put, List.setIfInBounds_toArray, List.set_cons_zero, List.set_cons_succ])
        (refine kF.takeL (i := 8) (v := ?_) rfl (by kernel_rfl) (fun _ _ _ h => h) (Or.inl ⟨by rfl, ?_⟩) ?_
         rotate_left
         · (intro wS hSw; (try dsimp only at hSw); have hcS := fun b o (h : b < wG.heap.size) => hSw.cell (p := ⟨b, o, none⟩) h; go_simp; (try with_reducible rfl))
         try simp only [Act.put, List.setIfInBounds_toArray, List.set_cons_zero, List.set_cons_succ])
        (refine kF.takeL (i := 9) (v := ?_) rfl (by kernel_rfl) (fun _ _ _ h => h) (Or.inl ⟨by rfl, ?_⟩) ?_
         rotate_left
         · (intro wS hSw; (try dsimp only at hSw); have hcS := fun b o (h : b < wG.heap.size) => hSw.cell (p := ⟨b, o, none⟩) h; go_simp; (try with_reducible rfl))
         try simp only [Act.put, List.setIfInBounds_toArray, List.set_cons_zero, List.set_cons_succ])
        (refine kF.takeL (i := 10) (v := ?_) rfl (by kernel_rfl) (fun _ _ _ h => h) (Or.inl ⟨by rfl, ?_⟩) ?_
         rotate_left
         · (intro wS hSw; (try dsimp only at hSw); have hcS := fun b o (h : b < wG.heap.size) => hSw.cell (p := ⟨b, o, none⟩) h; go_simp; (try with_reducible rfl))
         try simp only [Act.put, List.setIfInBounds_toArray, List.set_cons_zero, List.set_cons_succ])
        (refine kF.takeL (i := 11) (v := ?_) rfl (by kernel_rfl) (fun _ _ _ h => h) (Or.inl ⟨by rfl, ?_⟩) ?_
         rotate_left
         · (intro wS hSw; (try dsimp only at hSw); have hcS := fun b o (h : b < wG.heap.size) => hSw.cell (p := ⟨b, o, none⟩) h; go_simp; (try with_reducible rfl))
         try simp only [Act.put, List.setIfInBounds_toArray, List.set_cons_zero, List.set_cons_succ])
        (refine kF.takeL (i := 12) (v := ?_) rfl (by kernel_rfl) (fun _ _ _ h => h) (Or.inl ⟨by rfl, ?_⟩) ?_
         rotate_left
         · (intro wS hSw; (try dsimp only at hSw); have hcS := fun b o (h : b < wG.heap.size) => hSw.cell (p := ⟨b, o, none⟩) h; go_simp; (try with_reducible rfl))
         try simp only [Act.put, List.setIfInBounds_toArray, List.set_cons_zero, List.set_cons_succ])
        (refine kF.takeL (i := 13) (v := ?_) rfl (by kernel_rfl) (fun _ _ _ h => h) (Or.inl ⟨by rfl, ?_⟩) ?_
         rotate_left
         · (intro wS hSw; (try dsimp only at hSw); have hcS := fun b o (h : b < wG.heap.size) => hSw.cell (p := ⟨b, o, none⟩) h; go_simp; (try with_reducible rfl))
         try simp only [Act.put, List.setIfInBounds_toArray, List.set_cons_zero, List.set_cons_succ])
        (refine kF.takeL (i := 14) (v := ?_) rfl (by kernel_rfl) (fun _ _ _ h => h) (Or.inl ⟨by rfl, ?_⟩) ?_
         rotate_left
         · (intro wS hSw; (try dsimp only at hSw); have hcS := fun b o (h : b < wG.heap.size) => hSw.cell (p := ⟨b, o, none⟩) h; go_simp; (try with_reducible rfl))
         try simp only [Act.put, List.setIfInBounds_toArray, List.set_cons_zero, List.set_cons_succ])
        (refine kF.takeL (i := 15) (v := ?_) rfl (by kernel_rfl) (fun _ _ _ h => h) (Or.inl ⟨by rfl, ?_⟩) ?_
         rotate_left
         · (intro wS hSw; (try dsimp only at hSw); have hcS := fun b o (h : b < wG.heap.size) => hSw.cell (p := ⟨b, o, none⟩) h; go_simp; (try with_reducible rfl))
         try simp only [Act.put, List.setIfInBounds_toArray, List.set_cons_zero, List.set_cons_succ])
        (refine kF.takeL (i := 16) (v := ?_) rfl (by kernel_rfl) (fun _ _ _ h => h) (Or.inl ⟨by rfl, ?_⟩) ?_
         rotate_left
         · (intro wS hSw; (try dsimp only at hSw); have hcS := fun b o (h : b < wG.heap.size) => hSw.cell (p := ⟨b, o, none⟩) h; go_simp; (try with_reducible rfl))
         try simp only [Act.put, List.setIfInBounds_toArray, List.set_cons_zero, List.set_cons_succ])
        (refine kF.takeL (i := 17) (v := ?_) rfl (by kernel_rfl) (fun _ _ _ h => h) (Or.inl ⟨by rfl, ?_⟩) ?_
         rotate_left
         · (intro wS hSw; (try dsimp only at hSw); have hcS := fun b o (h : b < wG.heap.size) => hSw.cell (p := ⟨b, o, none⟩) h; go_simp; (try with_reducible rfl))
         try simp only [Act.put, List.setIfInBounds_toArray, List.set_cons_zero, List.set_cons_succ])
        (refine kF.takeL (i := 18) (v := ?_) rfl (by kernel_rfl) (fun _ _ _ h => h) (Or.inl ⟨by rfl, ?_⟩) ?_
         rotate_left
         · (intro wS hSw; (try dsimp only at hSw); have hcS := fun b o (h : b < wG.heap.size) => hSw.cell (p := ⟨b, o, none⟩) h; go_simp; (try with_reducible rfl))
         try simp only [Act.put, List.setIfInBounds_toArray, List.set_cons_zero, List.set_cons_succ])
        (refine kF.takeL (i := 19) (v := ?_) rfl (by kernel_rfl) (fun _ _ _ h => h) (Or.inl ⟨by rfl, ?_⟩) ?_
         rotate_left
         · (intro wS hSw; (try dsimp only at hSw); have hcS := fun b o (h : b < wG.heap.size) => hSw.cell (p := ⟨b, o, none⟩) h; go_simp; (try with_reducible rfl))
         try simp only [Act.put, List.setIfInBounds_toArray, List.set_cons_zero, List.set_cons_succ])
        (refine kF.takeL (i := 20) (v := ?_) rfl (by kernel_rfl) (fun _ _ _ h => h) (Or.inl ⟨by rfl, ?_⟩) ?_
         rotate_left
         · (intro wS hSw; (try dsimp only at hSw); have hcS := fun b o (h : b < wG.heap.size) => hSw.cell (p := ⟨b, o, none⟩) h; go_simp; (try with_reducible rfl))
         try simp only [Act.put, List.setIfInBounds_toArray, List.set_cons_zero, List.set_cons_succ])
        refine kF.done (by kernel_rfl) ?_
        have hN := (h8.out.below (hSk.trans (hk1.mono hSk.size))).sub (l' := [(qT, .cells (ixT.flatMap ixCells).toArray 44)]) (by simp)
        clear h8 hk1 hSk l6 z0 z1 z2 z3 z4 z5 e3 lx hqx hb8 hY8
        go_wp2_with fail
        go_roundw
        case rel => exact ⟨k + 1, by omega, by go_num, hN⟩
        case measure => simp [intOf]; omega
    --endL1
  obtain rfl : k = 9 := by omega
  have hS := Nb.start hN.bel
  clear hN
  go_wp2_with fail
  ((refine (law17_d 97 _).mono ?_
    rintro e wx ⟨rfl, hb⟩
    have hT := hS.below hb
    clear hS hb
    have hS := hT
    clear hT)
   go_wp2_with fail)
  ((refine (law17_d 98 _).mono ?_
    rintro e wx ⟨rfl, hb⟩
    have hT := hS.below hb
    clear hS hb
    have hS := hT
    clear hT)
   go_wp2_with fail)
  have hT := hS.alloc ixO2
  clear hS
  generalize hg : wx.heap.size = gA at hT ⊢
  clear hg
  have hS := hT
  clear hT
  ((refine (law17_at 112 5 5 _).mono ?_
    rintro e wx ⟨rfl, hb⟩
    have hT := hS.below hb
    clear hS hb
    have hS := hT
    clear hT)
   go_wp2_with fail)
  (refine (law17_at 112 0 5 _).mono ?_
   rintro e wx ⟨rfl, hb⟩
   have hT := hS.below hb
   clear hS hb
   have hS := hT
   clear hT)
  go_upto_region 12 with fail
  have hT := ((hS.alloc ixO3).alloc (.cells #[.int .i64 3, .int .i64 0, .string ⟨#[]⟩] 33))
  rw [show (wx.alloc ixO3).heap.size = wx.heap.size + 1 by simp] at hT
  have hU := hT.alloc (.cells #[.int .i64 1, .int .i64 2, .int .i64 7, .slice (some ⟨wx.heap.size + 1, 0, none⟩) 1 1, .slice (some ⟨gA, 0, none⟩) 2 2, .slice (some ⟨wx.heap.size, 0, none⟩) 2 2] 29)
  rw [show ((wx.alloc ixO3).alloc (.cells #[.int .i64 3, .int .i64 0, .string ⟨#[]⟩] 33)).heap.size = wx.heap.size + 1 + 1 by simp] at hU
  have hN : Nb w (((wx.alloc (.cells #[.string (letterRoot 112), .int .i64 5, .int .i64 5, .string (letterRoot 112), .int .i64 0, .int .i64 5] 35)).alloc (.cells #[.int .i64 3, .int .i64 0, .string ⟨#[]⟩] 33)).alloc (.cells #[.int .i64 1, .int .i64 2, .int .i64 7, .slice (some ⟨wx.heap.size + 1, 0, none⟩) 1 1, .slice (some ⟨gA, 0, none⟩) 2 2, .slice (some ⟨wx.heap.size, 0, none⟩) 2 2] 29))
    [(wx.heap.size + 1 + 1, .cells #[.int .i64 1, .int .i64 2, .int .i64 7, .slice (some ⟨wx.heap.size + 1, 0, none⟩) 1 1, .slice (some ⟨gA, 0, none⟩) 2 2, .slice (some ⟨wx.heap.size, 0, none⟩) 2 2] 29), (wx.heap.size + 1, .cells #[.int .i64 3, .int .i64 0, .string ⟨#[]⟩] 33), (wx.heap.size, ixO3), (gA, ixO2)] := hU
  clear hS hT hU
  generalize hg : wx.heap.size + 1 + 1 = q6 at hN ⊢
  clear hg
  generalize hg : wx.heap.size + 1 = gS at hN ⊢
  clear hg
  generalize hg : wx.heap.size = gP at hN ⊢
  clear hg
  generalize (((wx.alloc (.cells #[.string (letterRoot 112), .int .i64 5, .int .i64 5, .string (letterRoot 112), .int .i64 0, .int .i64 5] 35)).alloc (.cells #[.int .i64 3, .int .i64 0, .string ⟨#[]⟩] 33)).alloc (.cells #[.int .i64 1, .int .i64 2, .int .i64 7, .slice (some ⟨gS, 0, none⟩) 1 1, .slice (some ⟨gA, 0, none⟩) 2 2, .slice (some ⟨gP, 0, none⟩) 2 2] 29)) = wD at hN ⊢
  obtain ⟨l6, y0, y1, y2, y3, y4, y5, -⟩ := box_cells hN.head
  replace hN := Lib.hid hN
  refine region_krip (fun W : World => Below wD.heap.size wD W) (by kernel_rfl) ((Below.refl _ _).drew) ?_
  (refine kF.takeL (i := 0) (v := ?_) rfl (by kernel_rfl) (fun _ _ _ h => h) (Or.inl ⟨by rfl, ?_⟩) ?_
   rotate_left
   · (intro wS hSw; (try dsimp only at hSw); have hcS := fun b o (h : b < wD.heap.size) => hSw.cell (p := ⟨b, o, none⟩) h; go_simp; (try with_reducible rfl))
   try simp only [Act.put, List.setIfInBounds_toArray, List.set_cons_zero, List.set_cons_succ])
  (refine kF.takeL (i := 1) (v := ?_) rfl (by kernel_rfl) (fun _ _ _ h => h) (Or.inl ⟨by rfl, ?_⟩) ?_
   rotate_left
   · (intro wS hSw; (try dsimp only at hSw); have hcS := fun b o (h : b < wD.heap.size) => hSw.cell (p := ⟨b, o, none⟩) h; go_simp; (try with_reducible rfl))
   try simp only [Act.put, List.setIfInBounds_toArray, List.set_cons_zero, List.set_cons_succ])
  (refine kF.takeL (i := 2) (v := ?_) rfl (by kernel_rfl) (fun _ _ _ h => h) (Or.inl ⟨by rfl, ?_⟩) ?_
   rotate_left
   · (intro wS hSw; (try dsimp only at hSw); have hcS := fun b o (h : b < wD.heap.size) => hSw.cell (p := ⟨b, o, none⟩) h; go_simp; (try with_reducible rfl))
   try simp only [Act.put, List.setIfInBounds_toArray, List.set_cons_zero, List.set_cons_succ])
  (refine kF.takeL (i := 6) (v := ?_) rfl (by kernel_rfl) (fun _ _ _ h => h) (Or.inl ⟨by rfl, ?_⟩) ?_
   rotate_left
   · (intro wS hSw; (try dsimp only at hSw); have hcS := fun b o (h : b < wD.heap.size) => hSw.cell (p := ⟨b, o, none⟩) h; go_simp; (try with_reducible rfl))
   try simp only [Act.put, List.setIfInBounds_toArray, List.set_cons_zero, List.set_cons_succ])
  (refine kF.takeL (i := 7) (v := ?_) rfl (by kernel_rfl) (fun _ _ _ h => h) (Or.inl ⟨by rfl, ?_⟩) ?_
   rotate_left
   · (intro wS hSw; (try dsimp only at hSw); have hcS := fun b o (h : b < wD.heap.size) => hSw.cell (p := ⟨b, o, none⟩) h; go_simp; (try with_reducible rfl))
   try simp only [Act.put, List.setIfInBounds_toArray, List.set_cons_zero, List.set_cons_succ])
  (refine kF.takeL (i := 12) (v := ?_) rfl (by kernel_rfl) (fun _ _ _ h => h) (Or.inl ⟨by rfl, ?_⟩) ?_
   rotate_left
   · (intro wS hSw; (try dsimp only at hSw); have hcS := fun b o (h : b < wD.heap.size) => hSw.cell (p := ⟨b, o, none⟩) h; go_simp; (try with_reducible rfl))
   try simp only [Act.put, List.setIfInBounds_toArray, List.set_cons_zero, List.set_cons_succ])
  (refine kF.takeL (i := 13) (v := ?_) rfl (by kernel_rfl) (fun _ _ _ h => h) (Or.inl ⟨by rfl, ?_⟩) ?_
   rotate_left
   · (intro wS hSw; (try dsimp only at hSw); have hcS := fun b o (h : b < wD.heap.size) => hSw.cell (p := ⟨b, o, none⟩) h; go_simp; (try with_reducible rfl))
   try simp only [Act.put, List.setIfInBounds_toArray, List.set_cons_zero, List.set_cons_succ])
  (refine kF.takeL (i := 15) (v := ?_) rfl (by kernel_rfl) (fun _ _ _ h => h) (Or.inl ⟨by rfl, ?_⟩) ?_
   rotate_left
   · (intro wS hSw; (try dsimp only at hSw); have hcS := fun b o (h : b < wD.heap.size) => hSw.cell (p := ⟨b, o, none⟩) h; go_simp; (try with_reducible rfl))
   try simp only [Act.put, List.setIfInBounds_toArray, List.set_cons_zero, List.set_cons_succ])
  (refine kF.takeL (i := 16) (v := ?_) rfl (by kernel_rfl) (fun _ _ _ h => h) (Or.inl ⟨by rfl, ?_⟩) ?_
   rotate_left
   · (intro wS hSw; (try dsimp only at hSw); have hcS := fun b o (h : b < wD.heap.size) => hSw.cell (p := ⟨b, o, none⟩) h; go_simp; (try with_reducible rfl))
   try simp only [Act.put, List.setIfInBounds_toArray, List.set_cons_zero, List.set_cons_succ])
  (refine kF.takeL (i := 22) (v := ?_) rfl (by kernel_rfl) (fun _ _ _ h => h) (Or.inl ⟨by rfl, ?_⟩) ?_
   rotate_left
   · (intro wS hSw; (try dsimp only at hSw); have hcS := fun b o (h : b < wD.heap.size) => hSw.cell (p := ⟨b, o, none⟩) h; go_simp; (try with_reducible rfl))
   try simp only [Act.put, List.setIfInBounds_toArray, List.set_cons_zero, List.set_cons_succ])
  (refine kF.takeL (i := 23) (v := ?_) rfl (by kernel_rfl) (fun _ _ _ h => h) (Or.inl ⟨by rfl, ?_⟩) ?_
   rotate_left
   · (intro wS hSw; (try dsimp only at hSw); have hcS := fun b o (h : b < wD.heap.size) => hSw.cell (p := ⟨b, o, none⟩) h; go_simp; (try with_reducible rfl))
   try simp only [Act.put, List.setIfInBounds_toArray, List.set_cons_zero, List.set_cons_succ])
  (refine kF.takeL (i := 24) (v := ?_) rfl (by kernel_rfl) (fun _ _ _ h => h) (Or.inl ⟨by rfl, ?_⟩) ?_
   rotate_left
   · (intro wS hSw; (try dsimp only at hSw); have hcS := fun b o (h : b < wD.heap.size) => hSw.cell (p := ⟨b, o, none⟩) h; go_simp; (try with_reducible rfl))
   try simp only [Act.put, List.setIfInBounds_toArray, List.set_cons_zero, List.set_cons_succ])
  (refine kF.newT (i := 21) (fun b => .slice (some ⟨b, 0, none⟩) 1 1) (.cells #[.string ⟨#[97]⟩] 9) 25 (fun v => .agg #[.int .i64 0, .int .i64 0, .int .i64 0, .slice none 0 0, v, .slice (some ⟨gP, 0, none⟩) 1 2]) rfl rfl (by kernel_rfl) (by rfl) ?_ ?_ ?_
   · (intro wS; go_simp; (try with_reducible rfl))
   · (intro bS; refine Or.inl ⟨by rfl, ?_⟩; intro wS; try simp only [Act.put, List.setIfInBounds_toArray, List.set_cons_zero, List.set_cons_succ]; go_simp; (try with_reducible rfl)))
  (refine kF.onlyL (j := 3) rfl (by kernel_rfl) (fun _ _ _ _ _ => Iff.rfl) (fun _ _ h1 h2 => below_S (Nat.le_refl _) h1 h2) (fun k3 hbk3 hek3 hSk3 K hK => ?_)
   (go_simp; refine (law17_d 98 _).mono ?_; rintro e m3 ⟨rfl, hb3⟩)
   refine hK.out _ _ (below_S (Nat.le_refl _) hSk3 hb3) (.inr (.inl hb3)) ?_
   clear hK K hek3
   try simp only [Act.put, List.setIfInBounds_toArray, List.set_cons_zero, List.set_cons_succ])
  (refine kF.onlyL (j := 4) rfl (by kernel_rfl) (fun _ _ _ _ _ => Iff.rfl) (fun _ _ h1 h2 => below_S (Nat.le_refl _) h1 h2) (fun k4 hbk4 hek4 hSk4 K hK => ?_)
   (go_simp; refine (law17_d 97 _).mono ?_; rintro e m4 ⟨rfl, hb4⟩)
   refine hK.out _ _ (below_S (Nat.le_refl _) hSk4 hb4) (.inr (.inl hb4)) ?_
   clear hK K hek4
   try simp only [Act.put, List.setIfInBounds_toArray, List.set_cons_zero, List.set_cons_succ])
  (refine kF.newT (i := 5) (fun b => .slice (some ⟨b, 0, none⟩) 2 2) (.cells #[.string (letterRoot 98), .string (letterRoot 97)] 9) 8 (fun v => .agg #[.int .i64 0, .int .i64 0, .int .i64 0, .slice none 0 0, v, .slice (some ⟨gP, 0, none⟩) 2 2]) rfl rfl (by kernel_rfl) (by rfl) ?_ ?_ ?_
   · (intro wS; go_simp; (try with_reducible rfl))
   · (intro bS; refine Or.inl ⟨by rfl, ?_⟩; intro wS; try simp only [Act.put, List.setIfInBounds_toArray, List.set_cons_zero, List.set_cons_succ]; go_simp; (try with_reducible rfl)))
  (refine kF.onlyL (j := 9) rfl (by kernel_rfl) (fun _ _ _ _ _ => Iff.rfl) (fun _ _ h1 h2 => below_S (Nat.le_refl _) h1 h2) (fun k9 hbk9 hek9 hSk9 K hK => ?_)
   (go_simp; refine (law17_d 97 _).mono ?_; rintro e m9 ⟨rfl, hb9⟩)
   refine hK.out _ _ (below_S (Nat.le_refl _) hSk9 hb9) (.inr (.inl hb9)) ?_
   clear hK K hek9
   try simp only [Act.put, List.setIfInBounds_toArray, List.set_cons_zero, List.set_cons_succ])
  (refine kF.onlyL (j := 10) rfl (by kernel_rfl) (fun _ _ _ _ _ => Iff.rfl) (fun _ _ h1 h2 => below_S (Nat.le_refl _) h1 h2) (fun k10 hbk10 hek10 hSk10 K hK => ?_)
   (go_simp; refine (law17_d 97 _).mono ?_; rintro e m10 ⟨rfl, hb10⟩)
   refine hK.out _ _ (below_S (Nat.le_refl _) hSk10 hb10) (.inr (.inl hb10)) ?_
   clear hK K hek10
   try simp only [Act.put, List.setIfInBounds_toArray, List.set_cons_zero, List.set_cons_succ])
  (refine kF.newT (i := 11) (fun b => .slice (some ⟨b, 0, none⟩) 2 2) (.cells #[.string (letterRoot 97), .string (letterRoot 97)] 9) 14 (fun v => .agg #[.int .i64 0, .int .i64 0, .int .i64 0, .slice none 0 0, v, .slice (some ⟨gP, 0, none⟩) 2 2]) rfl rfl (by kernel_rfl) (by rfl) ?_ ?_ ?_
   · (intro wS; go_simp; (try with_reducible rfl))
   · (intro bS; refine Or.inl ⟨by rfl, ?_⟩; intro wS; try simp only [Act.put, List.setIfInBounds_toArray, List.set_cons_zero, List.set_cons_succ]; go_simp; (try with_reducible rfl)))
  (refine kF.onlyL (j := 17) rfl (by kernel_rfl) (fun _ _ _ _ _ => Iff.rfl) (fun _ _ h1 h2 => below_S (Nat.le_refl _) h1 h2) (fun k17 hbk17 hek17 hSk17 K hK => ?_)
   (go_simp; refine (law17_at 112 5 5 _).mono ?_; rintro e m17 ⟨rfl, hb17⟩)
   refine hK.out _ _ (below_S (Nat.le_refl _) hSk17 hb17) (.inr (.inl hb17)) ?_
   clear hK K hek17
   try simp only [Act.put, List.setIfInBounds_toArray, List.set_cons_zero, List.set_cons_succ])
  (refine kF.onlyL (j := 18) rfl (by kernel_rfl) (fun _ _ _ _ _ => Iff.rfl) (fun _ _ h1 h2 => below_S (Nat.le_refl _) h1 h2) (fun k18 hbk18 hek18 hSk18 K hK => ?_)
   (go_simp; refine (law17_at 112 9 5 _).mono ?_; rintro e m18 ⟨rfl, hb18⟩)
   refine hK.out _ _ (below_S (Nat.le_refl _) hSk18 hb18) (.inr (.inl hb18)) ?_
   clear hK K hek18
   try simp only [Act.put, List.setIfInBounds_toArray, List.set_cons_zero, List.set_cons_succ])
  (refine kF.newT (i := 19) (fun b => .slice (some ⟨b, 0, none⟩) 2 2) (.cells #[.string (letterRoot 112), .int .i64 5, .int .i64 5, .string (letterRoot 112), .int .i64 9, .int .i64 5] 35) 20 (fun v => .agg #[.int .i64 0, .int .i64 0, .int .i64 0, .slice none 0 0, .slice (some ⟨gA, 0, none⟩) 2 2, v]) rfl rfl (by kernel_rfl) (by rfl) ?_ ?_ ?_
   · (intro wS; go_simp; (try with_reducible rfl))
   · (intro bS; refine Or.inl ⟨by rfl, ?_⟩; intro wS; try simp only [Act.put, List.setIfInBounds_toArray, List.set_cons_zero, List.set_cons_succ]; go_simp; (try with_reducible rfl)))
  (refine kF.onlyL (j := 26) rfl (by kernel_rfl) (fun _ _ _ _ _ => Iff.rfl) (fun _ _ h1 h2 => below_S (Nat.le_refl _) h1 h2) (fun k26 hbk26 hek26 hSk26 K hK => ?_)
   (go_simp; refine (law17_full 401 (by decide) _).mono ?_; rintro e m26 ⟨FA, fc, FB, fd, rfl, hst, hb26⟩)
   refine hK.out _ _ (below_S (Nat.le_refl _) hSk26 hb26) (.inr (.inl hb26)) ?_
   clear hK K hek26
   try simp only [Act.put, List.setIfInBounds_toArray, List.set_cons_zero, List.set_cons_succ])
  (refine kF.settleT (by kernel_rfl) (fun _ _ _ _ _ => Iff.rfl) (fun _ _ h1 h2 => below_S (Nat.le_refl _) h1 h2) (fun u19 hbu19 hSu19 v hv => ?_)
   obtain ⟨bu19, hBu19, rfl, hxu19⟩ := hv
   try simp only [Act.put, List.setIfInBounds_toArray, List.set_cons_zero, List.set_cons_succ])
  (refine kF.settleT (by kernel_rfl) (fun _ _ _ _ _ => Iff.rfl) (fun _ _ h1 h2 => below_S (Nat.le_refl _) h1 h2) (fun u11 hbu11 hSu11 v hv => ?_)
   obtain ⟨bu11, hBu11, rfl, hxu11⟩ := hv
   try simp only [Act.put, List.setIfInBounds_toArray, List.set_cons_zero, List.set_cons_succ])
  (refine kF.settleT (by kernel_rfl) (fun _ _ _ _ _ => Iff.rfl) (fun _ _ h1 h2 => below_S (Nat.le_refl _) h1 h2) (fun u5 hbu5 hSu5 v hv => ?_)
   obtain ⟨bu5, hBu5, rfl, hxu5⟩ := hv
   try simp only [Act.put, List.setIfInBounds_toArray, List.set_cons_zero, List.set_cons_succ])
  (refine kF.settleT (by kernel_rfl) (fun _ _ _ _ _ => Iff.rfl) (fun _ _ h1 h2 => below_S (Nat.le_refl _) h1 h2) (fun u21 hbu21 hSu21 v hv => ?_)
   obtain ⟨bu21, hBu21, rfl, hxu21⟩ := hv
   try simp only [Act.put, List.setIfInBounds_toArray, List.set_cons_zero, List.set_cons_succ])
  (refine kF.newL (i := 27) (fun b => .slice (some ⟨b, 0, none⟩) 6 6) (.cells #[.int .i64 0, .int .i64 0, .int .i64 0, .slice none 0 0, .slice (some ⟨gA, 0, none⟩) 2 2, .slice none 0 0, .int .i64 0, .int .i64 0, .int .i64 0, .slice none 0 0, .slice (some ⟨bu5, 0, none⟩) 2 2, .slice (some ⟨gP, 0, none⟩) 2 2, .int .i64 0, .int .i64 0, .int .i64 0, .slice none 0 0, .slice (some ⟨bu11, 0, none⟩) 2 2, .slice (some ⟨gP, 0, none⟩) 2 2, .int .i64 0, .int .i64 0, .int .i64 0, .slice none 0 0, .slice (some ⟨gA, 0, none⟩) 2 2, .slice (some ⟨bu19, 0, none⟩) 2 2, .int .i64 0, .int .i64 0, .int .i64 0, .slice none 0 0, .slice (some ⟨bu21, 0, none⟩) 1 1, .slice (some ⟨gP, 0, none⟩) 1 2, .int .i64 0, .int .i64 0, .int .i64 0, .slice none 0 0, .slice FA 401 fc, .slice FB 401 fd] 29) rfl (by kernel_rfl) (by rfl) ?_ ?_
   · (intro wS; go_simp; (try with_reducible rfl)))
  (refine kF.settleL (by kernel_rfl) (fun _ _ _ _ _ => Iff.rfl) (fun _ _ h1 h2 => below_S (Nat.le_refl _) h1 h2) (fun u27 hbu27 hSu27 v hv => ?_)
   obtain ⟨bu27, hBu27, rfl, hxu27⟩ := hv
   try simp only [Act.put, List.setIfInBounds_toArray, List.set_cons_zero, List.set_cons_succ])
  (refine kF.takeL (i := 28) (v := ?_) rfl (by kernel_rfl) (fun _ _ _ h => h) (Or.inl ⟨by rfl, ?_⟩) ?_
   rotate_left
   · (intro wS hSw; (try dsimp only at hSw); have hcS := fun b o (h : b < wD.heap.size) => hSw.cell (p := ⟨b, o, none⟩) h; go_simp; (try with_reducible rfl))
   try simp only [Act.put, List.setIfInBounds_toArray, List.set_cons_zero, List.set_cons_succ])
  refine kF.done (by kernel_rfl) ?_
  have h19 := (hN.out.below hSu19).cons hxu19 (by have := hN.out.bel.size; have := hSk18.size; have := hb18.size; omega)
  have h11 := (h19.below hbu11).cons hxu11 (by have := hN.out.bel.size; have := hSk10.size; have := hb10.size; omega)
  have h5 := (h11.below hbu5).cons hxu5 (by have := hN.out.bel.size; have := hSk4.size; have := hb4.size; omega)
  have h21 := (h5.below hbu21).cons hxu21 (by have := hN.out.bel.size; have : wD.drew.heap.size = wD.heap.size := rfl; omega)
  have hL := h21.below hbu27
  have hF := (((((hst.to hbu19).to hbu11).to hbu5).to hbu21).to hbu27)
  obtain ⟨L, hLr, hLa⟩ := ix_bad (hL.mem (q := gA) (o := ixO2) (by simp)) (hL.mem (q := gP) (o := ixO3) (by simp)) (hL.mem (q := bu5) (by simp)) (hL.mem (q := bu11) (by simp)) (hL.mem (q := bu19) (by simp)) (hL.mem (q := bu21) (by simp)) hF hxu27
  have h6 := Lib.hid fun W (hW : Below u27.heap.size u27 W) => (hL.below hW).mem (q := q6) (o := .cells #[.int .i64 1, .int .i64 2, .int .i64 7, .slice (some ⟨gS, 0, none⟩) 1 1, .slice (some ⟨gA, 0, none⟩) 2 2, .slice (some ⟨gP, 0, none⟩) 2 2] 29) (by simp)
  have hTw : StAt u27 u27.heap.size (twoV gS gA gP) ixTwo :=
    ⟨rowHeap (k := 3) (enc := Snap.cells) (l := ixSn) (fun _ => rfl) (hL.mem (q := gS) (o := ixO4) (by simp [ixSn, Snap.cells])) (by decide), rowHeap (k := 1) (enc := strCell) (l := [kA, kB]) (fun _ => rfl) (hL.mem (q := gA) (o := ixO2) (by simp)) (by decide),
      rowHeap (k := 3) (enc := Place.cells) (l := ixPs) (fun _ => rfl) (hL.mem (q := gP) (o := ixO3) (by simp)) (by decide), by intro p hp; simp [ixTwo, ixPs] at hp; rcases hp with rfl | rfl <;> (unfold PlaceOk; decide)⟩
  have hwL : Hid (w.heap.size ≤ u27.heap.size ∧ Below w.heap.size w u27) := Lib.hid ⟨hL.bel.size, hL.bel⟩
  clear hxu27 hxu21 hxu5 hxu11 hxu19 h19 h11 h5 h21 hL hF hst hN
  clear hk hge
  (repeat (rename Below _ _ _ => hq; clear hq)
   repeat (rename (_ : Nat) ≤ (_ : Nat) => hq; clear hq))
  obtain ⟨wL, rfl⟩ : ∃ x : World, x = u27 := ⟨_, rfl⟩
  replace hLr := Lib.hid hLr
  replace hLa := Lib.hid hLa
  replace hTw := Lib.hid fun W (hW : Below wL.heap.size wL W) => hTw.to hW
  go_wp2_with fail
  go_loopw [8, 9, 10, 11, 12, 13, 14, 15, 16, 17, 18, 19] (fun ti _ _ _ _ _ _ _ _ _ _ _ wr => ∃ k : Nat, k ≤ 6 ∧ ti = .int .i64 k ∧ Below wL.heap.size wL wr) (fun ti _ _ _ _ _ _ _ _ _ _ _ _ => 6 - (intOf ti).toNat)
  case atStart => exact ⟨0, Nat.zero_le _, rfl, Below.refl _ _⟩
  obtain ⟨j, hj, rfl, hB⟩ := hrel
  obtain ⟨wp, rfl⟩ : ∃ x : World, x = wr := ⟨_, rfl⟩
  rcases Nat.lt_or_ge j 6 with hlt | hge
  case inl =>
    as_aux_lemma =>
      --L2
      obtain ⟨x, hx, hcx⟩ := hLr.out.rs hlt
      obtain ⟨hxs, hxm⟩ := hLa.out x (List.mem_of_getElem? hx)
      obtain ⟨⟨A1, n1, c1, A2, n2, c2, A3, n3, c3⟩, ⟨xk, xn, xx, xs, xc, xp⟩⟩ := x
      dsimp only at hcx hxs hxm
      simp only [Nat.zero_add] at hcx
      have hc := Lib.hid fun W (hW : Below wp.heap.size wp W) => hcx W (hB.trans (hW.mono hB.size))
      have hst := Lib.hid fun W (hW : Below wp.heap.size wp W) => hxs.to (hB.trans (hW.mono hB.size))
      have hlB : ∀ W, Below wp.heap.size wp W → wL.heap.size ≤ W.heap.size := fun W hW => Nat.le_trans hB.size hW.size
      replace hlB := Lib.hid hlB
      replace hxm := Lib.hid hxm
      clear hx hcx hxs
      go_upto_region 16 with fail
      obtain ⟨lq, e0, e1, e2, e3, e4, e5⟩ := hc.out wp (Below.refl _ _)
      replace lq := Nat.lt_of_lt_of_le lq (hlB.out wp (Below.refl _ _))
      refine region_krip (fun W : World => Below wp.heap.size wp W) (by kernel_rfl) ((Below.refl _ _).drew) ?_
      (refine kF.takeL (i := 0) (v := ?_) rfl (by kernel_rfl) (fun _ _ _ h => h) (Or.inl ⟨by rfl, ?_⟩) ?_
       rotate_left
       · (intro wS hSw; (try dsimp only at hSw); have hcS := fun b o (h : b < wp.heap.size) => hSw.cell (p := ⟨b, o, none⟩) h; go_simp; (try with_reducible rfl))
       try simp only [Act.put, List.setIfInBounds_toArray, List.set_cons_zero, List.set_cons_succ])
      (refine kF.takeL (i := 1) (v := ?_) rfl (by kernel_rfl) (fun _ _ _ h => h) (Or.inl ⟨by rfl, ?_⟩) ?_
       rotate_left
       · (intro wS hSw; (try dsimp only at hSw); have hcS := fun b o (h : b < wp.heap.size) => hSw.cell (p := ⟨b, o, none⟩) h; go_simp; (try with_reducible rfl))
       try simp only [Act.put, List.setIfInBounds_toArray, List.set_cons_zero, List.set_cons_succ])
      (refine kF.takeL (i := 2) (v := ?_) rfl (by kernel_rfl) (fun _ _ _ h => h) (Or.inl ⟨by rfl, ?_⟩) ?_
       rotate_left
       · (intro wS hSw; (try dsimp only at hSw); have hcS := fun b o (h : b < wp.heap.size) => hSw.cell (p := ⟨b, o, none⟩) h; go_simp; (try with_reducible rfl))
       try simp only [Act.put, List.setIfInBounds_toArray, List.set_cons_zero, List.set_cons_succ])
      (refine kF.takeL (i := 3) (v := ?_) rfl (by kernel_rfl) (fun _ _ _ h => h) (Or.inl ⟨by rfl, ?_⟩) ?_
       rotate_left
       · (intro wS hSw; (try dsimp only at hSw); have hcS := fun b o (h : b < wp.heap.size) => hSw.cell (p := ⟨b, o, none⟩) h; go_simp; (try with_reducible rfl))
       try simp only [Act.put, List.setIfInBounds_toArray, List.set_cons_zero, List.set_cons_succ])
      (refine kF.newL (i := 9) (fun b => .pointer (some ⟨b, 0, none⟩)) (.cells #[.string ⟨#[]⟩, .int .i64 0, .int .i64 0] 35) rfl (by kernel_rfl) (by rfl) ?_ ?_
       · (intro wS; go_simp; (try with_reducible rfl)))
      (refine kF.onlyL (j := 4) rfl (by kernel_rfl) (fun _ _ _ _ _ => Iff.rfl) (fun _ _ h1 h2 => below_S (Nat.le_refl _) h1 h2) (fun k4 hbk4 hek4 hSk4 K hK => ?_)
       (go_simp; refine (law17_d 97 _).mono ?_; rintro e m4 ⟨rfl, hb4⟩)
       refine hK.out _ _ (below_S (Nat.le_refl _) hSk4 hb4) (.inr (.inl hb4)) ?_
       clear hK K hek4
       try simp only [Act.put, List.setIfInBounds_toArray, List.set_cons_zero, List.set_cons_succ])
      (refine kF.onlyL (j := 5) rfl (by kernel_rfl) (fun _ _ _ _ _ => Iff.rfl) (fun _ _ h1 h2 => below_S (Nat.le_refl _) h1 h2) (fun k5 hbk5 hek5 hSk5 K hK => ?_)
       (go_simp; refine (bad_Find (hst.out k5 hSk5) hxm.out).mono ?_; rintro e m5 ⟨rfl, hb5⟩)
       refine hK.out _ _ (below_S (Nat.le_refl _) hSk5 hb5) (.inr (.inl hb5)) ?_
       clear hK K hek5
       try simp only [Act.put, List.setIfInBounds_toArray, List.set_cons_zero, List.set_cons_succ])
      (refine kF.takeL (i := 6) (v := ?_) rfl (by kernel_rfl) (fun _ _ _ h => h) (Or.inl ⟨by rfl, ?_⟩) ?_
       rotate_left
       · (intro wS hSw; (try dsimp only at hSw); have hcS := fun b o (h : b < wp.heap.size) => hSw.cell (p := ⟨b, o, none⟩) h; go_simp; (try with_reducible rfl))
       try simp only [Act.put, List.setIfInBounds_toArray, List.set_cons_zero, List.set_cons_succ])
      (refine kF.takeL (i := 7) (v := ?_) rfl (by kernel_rfl) (fun _ _ _ h => h) (Or.inl ⟨by rfl, ?_⟩) ?_
       rotate_left
       · (intro wS hSw; (try dsimp only at hSw); have hcS := fun b o (h : b < wp.heap.size) => hSw.cell (p := ⟨b, o, none⟩) h; go_simp; (try with_reducible rfl))
       try simp only [Act.put, List.setIfInBounds_toArray, List.set_cons_zero, List.set_cons_succ])
      (refine kF.takeL (i := 8) (v := ?_) rfl (by kernel_rfl) (fun _ _ _ h => h) (Or.inl ⟨by rfl, ?_⟩) ?_
       rotate_left
       · (intro wS hSw; (try dsimp only at hSw); have hcS := fun b o (h : b < wp.heap.size) => hSw.cell (p := ⟨b, o, none⟩) h; go_simp; (try with_reducible rfl))
       try simp only [Act.put, List.setIfInBounds_toArray, List.set_cons_zero, List.set_cons_succ])
      (refine kF.settleL (by kernel_rfl) (fun _ _ _ _ _ => Iff.rfl) (fun _ _ h1 h2 => below_S (Nat.le_refl _) h1 h2) (fun u9 hbu9 hSu9 v hv => ?_)
       obtain ⟨bu9, hBu9, rfl, hxu9⟩ := hv
       try simp only [Act.put, List.setIfInBounds_toArray, List.set_cons_zero, List.set_cons_succ])
      have l9 := (Array.getElem?_eq_some_iff.1 hxu9).1
      have z0 := cell_of_row u9 bu9 0 _ _ _ hxu9
      have z1 := cell_of_row u9 bu9 1 _ _ _ hxu9
      have z2 := cell_of_row u9 bu9 2 _ _ _ hxu9
      have f8 : ∀ o, u9.frozen? ⟨bu9, o, none⟩ = false := fun o => by unfold World.frozen?; simp [hxu9]
      have f0 := f8 0
      have f1 := f8 1
      have f2 := f8 2
      clear f8
      (refine kF.lastL (j := 10) rfl (by kernel_rfl) (fun _ _ _ _ _ => Iff.rfl) (fun _ _ h1 h2 => below_S (Nat.le_refl _) h1 h2) (fun hSk K hK => ?_)
       go_simp
       refine hK.out _ _ (below3 hSk hBu9) ?_
       clear hK K
       try simp only [Act.put, List.setIfInBounds_toArray, List.set_cons_zero, List.set_cons_succ])
      (refine kF.takeL (i := 11) (v := ?_) rfl (by kernel_rfl) (fun _ _ _ h => h) (Or.inl ⟨by rfl, ?_⟩) ?_
       rotate_left
       · (intro wS hSw; (try dsimp only at hSw); have hcS := fun b o (h : b < wp.heap.size) => hSw.cell (p := ⟨b, o, none⟩) h; go_simp; (try with_reducible rfl))
       try simp only [Act.put, List.setIfInBounds_toArray, List.set_cons_zero, List.set_cons_succ])
      refine kF.done (by kernel_rfl) ?_
      have hB1 : Below wp.heap.size wp (((u9.setCell ⟨bu9, 0, none⟩ (.string ⟨#[]⟩)).setCell ⟨bu9, 1, none⟩ (.int .i64 0)).setCell ⟨bu9, 2, none⟩ (.int .i64 0)) := below3 hSu9 hBu9
      clear hxu9 l9 z0 z1 z2 f0 f1 f2 hSu9 hbu9 hSk hSk5 hbk5 hb5 hSk4 hbk4 hb4 lq e0 e1 e2 e3 e4 e5
      generalize (((u9.setCell ⟨bu9, 0, none⟩ (.string ⟨#[]⟩)).setCell ⟨bu9, 1, none⟩ (.int .i64 0)).setCell ⟨bu9, 2, none⟩ (.int .i64 0)) = w2 at hB1 ⊢
      obtain ⟨lq, e0, e1, e2, e3, e4, e5⟩ := hc.out w2 hB1
      replace lq := Nat.lt_of_lt_of_le lq (hlB.out w2 hB1)
      go_wp2_with fail
      refine (bad_Add (hst.out w2 hB1) hxm.out).mono ?_
      rintro e w3 ⟨B1, m1, d1, B2, m2, d2, B3, m3, d3, rfl, hao⟩
      dsimp only [stNone]
      have hB2 : Below wp.heap.size wp (w3.alloc (.cells #[.int .i64 0, .int .i64 0, .int .i64 0, .slice B1 m1 d1, .slice B2 m2 d2, .slice B3 m3 d3] 29)) := (hB1.trans (hao.below.mono hB1.size)).alloc (hB1.trans (hao.below.mono hB1.size)).size _
      go_upto_region 18 with fail
      clear hao hB1 lq e0 e1 e2 e3 e4 e5
      generalize (w3.alloc (.cells #[.int .i64 0, .int .i64 0, .int .i64 0, .slice B1 m1 d1, .slice B2 m2 d2, .slice B3 m3 d3] 29)) = w4 at hB2 ⊢
      obtain ⟨lq, e0, e1, e2, e3, e4, e5⟩ := hc.out w4 hB2
      replace lq := Nat.lt_of_lt_of_le lq (hlB.out w4 hB2)
      go_wp2_with fail
      refine (bad_Drop (hst.out w4 hB2) hxm.out).mono ?_
      rintro e w5 ⟨B1, m1, d1, B2, m2, d2, B3, m3, d3, rfl, hao⟩
      dsimp only [stNone]
      have hB3 : Below wp.heap.size wp (w5.alloc (.cells #[.int .i64 0, .int .i64 0, .int .i64 0, .slice B1 m1 d1, .slice B2 m2 d2, .slice B3 m3 d3] 29)) := (hB2.trans (hao.below.mono hB2.size)).alloc (hB2.trans (hao.below.mono hB2.size)).size _
      go_upto_region 19 with fail
      clear hao hB2 lq e0 e1 e2 e3 e4 e5
      generalize (w5.alloc (.cells #[.int .i64 0, .int .i64 0, .int .i64 0, .slice B1 m1 d1, .slice B2 m2 d2, .slice B3 m3 d3] 29)) = w6 at hB3 ⊢
      obtain ⟨lq, e0, e1, e2, e3, e4, e5⟩ := hc.out w6 hB3
      replace lq := Nat.lt_of_lt_of_le lq (hlB.out w6 hB3)
      go_wp2_with fail
      refine (bad_Packs (hst.out w6 hB3) hxm.out).mono ?_
      rintro e w7 ⟨u, rfl, hb7⟩
      go_upto_region 20 with fail
      have hB4 := hB3.trans (hb7.mono hB3.size)
      clear hB3 hb7 lq e0 e1 e2 e3 e4 e5
      obtain ⟨lq, e0, e1, e2, e3, e4, e5⟩ := hc.out w7 hB4
      replace lq := Nat.lt_of_lt_of_le lq (hlB.out w7 hB4)
      refine region_krip (fun W : World => Below w7.heap.size w7 W) (by kernel_rfl) ((Below.refl _ _).drew) ?_
      (refine kF.takeL (i := 0) (v := ?_) rfl (by kernel_rfl) (fun _ _ _ h => h) (Or.inl ⟨by rfl, ?_⟩) ?_
       rotate_left
       · (intro wS hSw; (try dsimp only at hSw); have hcS := fun b o (h : b < w7.heap.size) => hSw.cell (p := ⟨b, o, none⟩) h; go_simp; (try with_reducible rfl))
       try simp only [Act.put, List.setIfInBounds_toArray, List.set_cons_zero, List.set_cons_succ])
      (refine kF.takeL (i := 1) (v := ?_) rfl (by kernel_rfl) (fun _ _ _ h => h) (Or.inl ⟨by rfl, ?_⟩) ?_
       rotate_left
       · (intro wS hSw; (try dsimp only at hSw); have hcS := fun b o (h : b < w7.heap.size) => hSw.cell (p := ⟨b, o, none⟩) h; go_simp; (try with_reducible rfl))
       try simp only [Act.put, List.setIfInBounds_toArray, List.set_cons_zero, List.set_cons_succ])
      (refine kF.takeL (i := 2) (v := ?_) rfl (by kernel_rfl) (fun _ _ _ h => h) (Or.inl ⟨by rfl, ?_⟩) ?_
       rotate_left
       · (intro wS hSw; (try dsimp only at hSw); have hcS := fun b o (h : b < w7.heap.size) => hSw.cell (p := ⟨b, o, none⟩) h; go_simp; (try with_reducible rfl))
       try simp only [Act.put, List.setIfInBounds_toArray, List.set_cons_zero, List.set_cons_succ])
      (refine kF.takeL (i := 3) (v := ?_) rfl (by kernel_rfl) (fun _ _ _ h => h) (Or.inl ⟨by rfl, ?_⟩) ?_
       rotate_left
       · (intro wS hSw; (try dsimp only at hSw); have hcS := fun b o (h : b < w7.heap.size) => hSw.cell (p := ⟨b, o, none⟩) h; go_simp; (try with_reducible rfl))
       try simp only [Act.put, List.setIfInBounds_toArray, List.set_cons_zero, List.set_cons_succ])
      (refine kF.lastL (j := 4) rfl (by kernel_rfl) (fun _ _ _ _ _ => Iff.rfl) (fun _ _ h1 h2 => below_S (Nat.le_refl _) h1 h2) (fun hSk K hK => ?_)
       (go_simp; refine (law17_d 112 _).mono ?_; rintro e m4 ⟨rfl, hb4⟩; have hS4 := hSk.trans (hb4.mono hSk.size))
       refine hK.out _ _ (below_S (Nat.le_refl _) hSk hb4) ?_
       clear hK K
       try simp only [Act.put, List.setIfInBounds_toArray, List.set_cons_zero, List.set_cons_succ])
      clear hSk
      (refine kF.lastL (j := 5) rfl (by kernel_rfl) (fun _ _ _ _ _ => Iff.rfl) (fun _ _ h1 h2 => below_S (Nat.le_refl _) h1 h2) (fun hSk K hK => ?_)
       (go_simp; refine (bad_Of (hst.out m4 (hB4.trans (hS4.mono hB4.size))) hxm.out).mono ?_; rintro e m5 ⟨u1, u2, rfl, hb5⟩)
       refine hK.out _ _ (below_S (Nat.le_refl _) hSk hb5) ?_
       clear hK K
       try simp only [Act.put, List.setIfInBounds_toArray, List.set_cons_zero, List.set_cons_succ])
      (refine kF.takeL (i := 6) (v := ?_) rfl (by kernel_rfl) (fun _ _ _ h => h) (Or.inl ⟨by rfl, ?_⟩) ?_
       rotate_left
       · (intro wS hSw; (try dsimp only at hSw); have hcS := fun b o (h : b < w7.heap.size) => hSw.cell (p := ⟨b, o, none⟩) h; go_simp; (try with_reducible rfl))
       try simp only [Act.put, List.setIfInBounds_toArray, List.set_cons_zero, List.set_cons_succ])
      (refine kF.takeL (i := 7) (v := ?_) rfl (by kernel_rfl) (fun _ _ _ h => h) (Or.inl ⟨by rfl, ?_⟩) ?_
       rotate_left
       · (intro wS hSw; (try dsimp only at hSw); have hcS := fun b o (h : b < w7.heap.size) => hSw.cell (p := ⟨b, o, none⟩) h; go_simp; (try with_reducible rfl))
       try simp only [Act.put, List.setIfInBounds_toArray, List.set_cons_zero, List.set_cons_succ])
      (refine kF.takeL (i := 8) (v := ?_) rfl (by kernel_rfl) (fun _ _ _ h => h) (Or.inl ⟨by rfl, ?_⟩) ?_
       rotate_left
       · (intro wS hSw; (try dsimp only at hSw); have hcS := fun b o (h : b < w7.heap.size) => hSw.cell (p := ⟨b, o, none⟩) h; go_simp; (try with_reducible rfl))
       try simp only [Act.put, List.setIfInBounds_toArray, List.set_cons_zero, List.set_cons_succ])
      (refine kF.takeL (i := 9) (v := ?_) rfl (by kernel_rfl) (fun _ _ _ h => h) (Or.inl ⟨by rfl, ?_⟩) ?_
       rotate_left
       · (intro wS hSw; (try dsimp only at hSw); have hcS := fun b o (h : b < w7.heap.size) => hSw.cell (p := ⟨b, o, none⟩) h; go_simp; (try with_reducible rfl))
       try simp only [Act.put, List.setIfInBounds_toArray, List.set_cons_zero, List.set_cons_succ])
      (refine kF.takeL (i := 10) (v := ?_) rfl (by kernel_rfl) (fun _ _ _ h => h) (Or.inl ⟨by rfl, ?_⟩) ?_
       rotate_left
       · (intro wS hSw; (try dsimp only at hSw); have hcS := fun b o (h : b < w7.heap.size) => hSw.cell (p := ⟨b, o, none⟩) h; go_simp; (try with_reducible rfl))
       try simp only [Act.put, List.setIfInBounds_toArray, List.set_cons_zero, List.set_cons_succ])
      (refine kF.takeL (i := 11) (v := ?_) rfl (by kernel_rfl) (fun _ _ _ h => h) (Or.inl ⟨by rfl, ?_⟩) ?_
       rotate_left
       · (intro wS hSw; (try dsimp only at hSw); have hcS := fun b o (h : b < w7.heap.size) => hSw.cell (p := ⟨b, o, none⟩) h; go_simp; (try with_reducible rfl))
       try simp only [Act.put, List.setIfInBounds_toArray, List.set_cons_zero, List.set_cons_succ])
      (refine kF.takeL (i := 12) (v := ?_) rfl (by kernel_rfl) (fun _ _ _ h => h) (Or.inl ⟨by rfl, ?_⟩) ?_
       rotate_left
       · (intro wS hSw; (try dsimp only at hSw); have hcS := fun b o (h : b < w7.heap.size) => hSw.cell (p := ⟨b, o, none⟩) h; go_simp; (try with_reducible rfl))
       try simp only [Act.put, List.setIfInBounds_toArray, List.set_cons_zero, List.set_cons_succ])
      refine kF.done (by kernel_rfl) ?_
      have hB5 : Below wp.heap.size wp m5 := (hB4.trans (hS4.mono hB4.size)).trans (hb5.mono (hB4.trans (hS4.mono hB4.size)).size)
      clear hB4 hS4 hb5 hb4 hSk lq e0 e1 e2 e3 e4 e5
      obtain ⟨lq, e0, e1, e2, e3, e4, e5⟩ := hc.out m5 hB5
      replace lq := Nat.lt_of_lt_of_le lq (hlB.out m5 hB5)
      go_wp2_with fail
      refine (any_May (hst.out m5 hB5) hxm.out).mono ?_
      rintro e m6 ⟨rfl, hb6⟩
      go_wp2_with fail
      go_roundw
      case rel => exact ⟨j + 1, by omega, by go_num, hB.trans ((hB5.trans (hb6.mono hB5.size)).mono hB.size)⟩
      case measure => simp [intOf]; omega
    --endL2
  obtain rfl : j = 6 := by omega
  obtain ⟨l6, y0, y1, y2, y3, y4, y5, -⟩ := box_cells (h6.out wp hB)
  clear hLr hLa hj hge
  go_upto_region 23 with fail
  refine region_krip (fun W : World => Below wp.heap.size wp W) (by kernel_rfl) ((Below.refl _ _).drew) ?_
  (refine kF.takeL (i := 0) (v := ?_) rfl (by kernel_rfl) (fun _ _ _ h => h) (Or.inl ⟨by rfl, ?_⟩) ?_
   rotate_left
   · (intro wS hSw; (try dsimp only at hSw); have hcS := fun b o (h : b < wp.heap.size) => hSw.cell (p := ⟨b, o, none⟩) h; go_simp; (try with_reducible rfl))
   try simp only [Act.put, List.setIfInBounds_toArray, List.set_cons_zero, List.set_cons_succ])
  (refine kF.newL (i := 8) (fun b => .pointer (some ⟨b, 0, none⟩)) (.cells #[.int .i64 0, .int .i64 0, .int .i64 0, .slice none 0 0, .slice none 0 0, .slice none 0 0] 29) rfl (by kernel_rfl) (by rfl) ?_ ?_
   · (intro wS; go_simp; (try with_reducible rfl)))
  (refine kF.onlyL (j := 1) rfl (by kernel_rfl) (fun _ _ _ _ _ => Iff.rfl) (fun _ _ h1 h2 => below_S (Nat.le_refl _) h1 h2) (fun k1 hbk1 hek1 hSk1 K hK => ?_)
   (go_simp; refine (law17_d 97 _).mono ?_; rintro e m1 ⟨rfl, hb1⟩)
   refine hK.out _ _ (below_S (Nat.le_refl _) hSk1 hb1) (.inr (.inl hb1)) ?_
   clear hK K hek1
   try simp only [Act.put, List.setIfInBounds_toArray, List.set_cons_zero, List.set_cons_succ])
  (refine kF.onlyL (j := 2) rfl (by kernel_rfl) (fun _ _ _ _ _ => Iff.rfl) (fun _ _ h1 h2 => below_S (Nat.le_refl _) h1 h2) (fun k2 hbk2 hek2 hSk2 K hK => ?_)
   (go_simp; refine (law17_d 97 _).mono ?_; rintro e m2 ⟨rfl, hb2⟩)
   refine hK.out _ _ (below_S (Nat.le_refl _) hSk2 hb2) (.inr (.inl hb2)) ?_
   clear hK K hek2
   try simp only [Act.put, List.setIfInBounds_toArray, List.set_cons_zero, List.set_cons_succ])
  (refine kF.newL (i := 3) (fun b => .slice (some ⟨b, 0, none⟩) 2 2) (.cells #[.string (letterRoot 97), .string (letterRoot 97)] 9) rfl (by kernel_rfl) (by rfl) ?_ ?_
   · (intro wS; go_simp; (try with_reducible rfl)))
  (refine kF.settleL (by kernel_rfl) (fun _ _ _ _ _ => Iff.rfl) (fun _ _ h1 h2 => below_S (Nat.le_refl _) h1 h2) (fun u3 hbu3 hSu3 v hv => ?_)
   obtain ⟨bu3, hBu3, rfl, hxu3⟩ := hv
   try simp only [Act.put, List.setIfInBounds_toArray, List.set_cons_zero, List.set_cons_succ])
  (refine kF.onlyL (j := 4) rfl (by kernel_rfl) (fun _ _ _ _ _ => Iff.rfl) (fun _ _ h1 h2 => below_S (Nat.le_refl _) h1 h2) (fun k4 hbk4 hek4 hSk4 K hK => ?_)
   (go_simp; refine (any_Drop (s := ixTwo) (v := twoV gS gA gP) (ds := [kA, kA]) (hTw.out k4 (hB.trans (hSk4.mono hB.size))) ((rowHeap (k := 1) (enc := strCell) (l := [kA, kA]) (T := 9) (fun _ => rfl) hxu3 (by decide)).to hbk4) (by first | omega | decide) two_drop).mono ?_; rintro e m4 ⟨B1, n1, c1, B2, n2, c2, B3, n3, c3, rfl, hao⟩; dsimp only [ixOne])
   refine hK.out _ _ (below_S (Nat.le_refl _) hSk4 hao.below) (.inr (.inl hao.below)) ?_
   clear hK K hek4
   try simp only [Act.put, List.setIfInBounds_toArray, List.set_cons_zero, List.set_cons_succ])
  (refine kF.takeL (i := 5) (v := ?_) rfl (by kernel_rfl) (fun _ _ _ h => h) (Or.inl ⟨by rfl, ?_⟩) ?_
   rotate_left
   · (intro wS hSw; (try dsimp only at hSw); have hcS := fun b o (h : b < wp.heap.size) => hSw.cell (p := ⟨b, o, none⟩) h; go_simp; (try with_reducible rfl))
   try simp only [Act.put, List.setIfInBounds_toArray, List.set_cons_zero, List.set_cons_succ])
  (refine kF.takeL (i := 6) (v := ?_) rfl (by kernel_rfl) (fun _ _ _ h => h) (Or.inl ⟨by rfl, ?_⟩) ?_
   rotate_left
   · (intro wS hSw; (try dsimp only at hSw); have hcS := fun b o (h : b < wp.heap.size) => hSw.cell (p := ⟨b, o, none⟩) h; go_simp; (try with_reducible rfl))
   try simp only [Act.put, List.setIfInBounds_toArray, List.set_cons_zero, List.set_cons_succ])
  (refine kF.takeL (i := 7) (v := ?_) rfl (by kernel_rfl) (fun _ _ _ h => h) (Or.inl ⟨by rfl, ?_⟩) ?_
   rotate_left
   · (intro wS hSw; (try dsimp only at hSw); have hcS := fun b o (h : b < wp.heap.size) => hSw.cell (p := ⟨b, o, none⟩) h; go_simp; (try with_reducible rfl))
   try simp only [Act.put, List.setIfInBounds_toArray, List.set_cons_zero, List.set_cons_succ])
  ((refine kF.settleL (by kernel_rfl) (fun _ _ _ _ _ => Iff.rfl) (fun _ _ h1 h2 => below_S (Nat.le_refl _) h1 h2) (fun u8 hbu8 hSu8 v hv => ?_)
    obtain ⟨bu8, hBu8, rfl, hxu8⟩ := hv
    try simp only [Act.put, List.setIfInBounds_toArray, List.set_cons_zero, List.set_cons_succ])
   obtain ⟨l8, z0, z1, z2, z3, z4, z5, f8⟩ := box_cells hxu8
   have f0 := f8 0
   have f1 := f8 1
   have f2 := f8 2
   have f3 := f8 3
   have f4 := f8 4
   have f5 := f8 5
   clear f8
   (refine kF.lastL (j := 9) rfl (by kernel_rfl) (fun _ _ _ _ _ => Iff.rfl) (fun _ _ h1 h2 => below_S (Nat.le_refl _) h1 h2) (fun hSk K hK => ?_)
    go_simp
    refine hK.out _ _ (below6 hSk hBu8) ?_
    clear hK K
    try simp only [Act.put, List.setIfInBounds_toArray, List.set_cons_zero, List.set_cons_succ])
   (refine kF.takeL (i := 10) (v := ?_) rfl (by kernel_rfl) (fun _ _ _ h => h) (Or.inl ⟨by rfl, ?_⟩) ?_
    rotate_left
    · (intro wS hSw; (try dsimp only at hSw); have hcS := fun b o (h : b < wp.heap.size) => hSw.cell (p := ⟨b, o, none⟩) h; go_simp; (try with_reducible rfl))
    try simp only [Act.put, List.setIfInBounds_toArray, List.set_cons_zero, List.set_cons_succ])
   refine kF.done (by kernel_rfl) ?_
   have hB' : Below wL.heap.size wL ((((((u8.setCell ⟨bu8, 0, none⟩ (.int .i64 1)).setCell ⟨bu8, 1, none⟩ (.int .i64 2)).setCell ⟨bu8, 2, none⟩ (.int .i64 7)).setCell ⟨bu8, 3, none⟩ (.slice B1 n1 c1)).setCell ⟨bu8, 4, none⟩ (.slice B2 n2 c2)).setCell ⟨bu8, 5, none⟩ (.slice B3 n3 c3)) := hB.trans ((below6 hSu8 hBu8).mono hB.size))
  obtain rfl : n1 = 1 := hao.st.sn.1.symm
  obtain rfl : n2 = 1 := hao.st.cs.1.symm
  have hH := heap6 (v0 := .int .i64 1) (v1 := .int .i64 2) (v2 := .int .i64 7) (v3 := .slice B1 1 c1) (v4 := .slice B2 1 c2) (v5 := .slice B3 n3 c3) hxu8
  have hR := Owns.row (k := 1) (enc := strCell) (fun _ => rfl) (Owns.six (v0 := .int .i64 1) (v1 := .int .i64 2) (v2 := .int .i64 7) (v3 := .slice B1 1 c1) (v4 := .slice B2 1 c2) (v5 := .slice B3 n3 c3) (hao.o2.below hbu8) hxu8 (by decide))
  clear l6 y0 y1 y2 y3 y4 y5 l8 z0 z1 z2 z3 z4 z5 f0 f1 f2 f3 f4 f5 hB hxu8 hSu8 hbu8 hSk hao hxu3 hSu3 hbu3 hSk4 hbk4 hSk1 hbk1 hb1 hSk2 hbk2 hb2
  generalize ((((((u8.setCell ⟨bu8, 0, none⟩ (.int .i64 1)).setCell ⟨bu8, 1, none⟩ (.int .i64 2)).setCell ⟨bu8, 2, none⟩ (.int .i64 7)).setCell ⟨bu8, 3, none⟩ (.slice B1 1 c1)).setCell ⟨bu8, 4, none⟩ (.slice B2 1 c2)).setCell ⟨bu8, 5, none⟩ (.slice B3 n3 c3)) = w23 at hB' hH hR ⊢
  have hB := hB'
  clear hB'
  obtain ⟨bb, ob, ss, rfl, lbb, hss, hcc⟩ := hR.str (i := 0) (by exact Nat.zero_lt_one)
  obtain rfl : ss = kB := by simpa [ixOne] using hss.symm
  (replace h6 := Lib.hid fun W (hW : Below w23.heap.size w23 W) => h6.out W (hB.trans (hW.mono hB.size))
   replace hTw := Lib.hid fun W (hW : Below w23.heap.size w23 W) => hTw.out W (hB.trans (hW.mono hB.size))
   replace hwL := Lib.hid (And.intro (Nat.le_trans hwL.out.1 hB.size) (hwL.out.2.trans (hB.mono hwL.out.1))))
  have h20 := Lib.hid fun W (hW : Below w23.heap.size w23 W) => (hW.block _ (Array.getElem?_eq_some_iff.1 hH).1).trans hH
  have hC20 := Lib.hid fun W (hW : Below w23.heap.size w23 W) => And.intro (Nat.lt_of_lt_of_le lbb hW.size) ((hW.cell (p := ⟨bb, ob + 0, none⟩) lbb).trans hcc)
  clear hB hH hR hss hcc lbb
  obtain ⟨wL, rfl⟩ : ∃ x : World, x = w23 := ⟨_, rfl⟩
  have hB := Below.refl wL.heap.size wL
  obtain ⟨l6, y0, y1, y2, y3, y4, y5, -⟩ := box_cells (h6.out wL hB)
  go_upto_region 24 with fail
  refine region_krip (fun W : World => Below wL.heap.size wL W) (by kernel_rfl) ((Below.refl _ _).drew) ?_
  (refine kF.takeL (i := 0) (v := ?_) rfl (by kernel_rfl) (fun _ _ _ h => h) (Or.inl ⟨by rfl, ?_⟩) ?_
   rotate_left
   · (intro wS hSw; (try dsimp only at hSw); have hcS := fun b o (h : b < wL.heap.size) => hSw.cell (p := ⟨b, o, none⟩) h; go_simp; (try with_reducible rfl))
   try simp only [Act.put, List.setIfInBounds_toArray, List.set_cons_zero, List.set_cons_succ])
  (refine kF.newL (i := 8) (fun b => .pointer (some ⟨b, 0, none⟩)) (.cells #[.int .i64 0, .int .i64 0, .int .i64 0, .slice none 0 0, .slice none 0 0, .slice none 0 0] 29) rfl (by kernel_rfl) (by rfl) ?_ ?_
   · (intro wS; go_simp; (try with_reducible rfl)))
  (refine kF.onlyL (j := 1) rfl (by kernel_rfl) (fun _ _ _ _ _ => Iff.rfl) (fun _ _ h1 h2 => below_S (Nat.le_refl _) h1 h2) (fun k1 hbk1 hek1 hSk1 K hK => ?_)
   (go_simp; refine (law17_d 97 _).mono ?_; rintro e m1 ⟨rfl, hb1⟩)
   refine hK.out _ _ (below_S (Nat.le_refl _) hSk1 hb1) (.inr (.inl hb1)) ?_
   clear hK K hek1
   try simp only [Act.put, List.setIfInBounds_toArray, List.set_cons_zero, List.set_cons_succ])
  (refine kF.onlyL (j := 2) rfl (by kernel_rfl) (fun _ _ _ _ _ => Iff.rfl) (fun _ _ h1 h2 => below_S (Nat.le_refl _) h1 h2) (fun k2 hbk2 hek2 hSk2 K hK => ?_)
   (go_simp; refine (law17_d 99 _).mono ?_; rintro e m2 ⟨rfl, hb2⟩)
   refine hK.out _ _ (below_S (Nat.le_refl _) hSk2 hb2) (.inr (.inl hb2)) ?_
   clear hK K hek2
   try simp only [Act.put, List.setIfInBounds_toArray, List.set_cons_zero, List.set_cons_succ])
  (refine kF.newL (i := 3) (fun b => .slice (some ⟨b, 0, none⟩) 2 2) (.cells #[.string (letterRoot 97), .string (letterRoot 99)] 9) rfl (by kernel_rfl) (by rfl) ?_ ?_
   · (intro wS; go_simp; (try with_reducible rfl)))
  (refine kF.settleL (by kernel_rfl) (fun _ _ _ _ _ => Iff.rfl) (fun _ _ h1 h2 => below_S (Nat.le_refl _) h1 h2) (fun u3 hbu3 hSu3 v hv => ?_)
   obtain ⟨bu3, hBu3, rfl, hxu3⟩ := hv
   try simp only [Act.put, List.setIfInBounds_toArray, List.set_cons_zero, List.set_cons_succ])
  (refine kF.onlyL (j := 4) rfl (by kernel_rfl) (fun _ _ _ _ _ => Iff.rfl) (fun _ _ h1 h2 => below_S (Nat.le_refl _) h1 h2) (fun k4 hbk4 hek4 hSk4 K hK => ?_)
   (go_simp; refine (any_Drop (s := ixTwo) (v := twoV gS gA gP) (ds := [kA, kC]) (hTw.out k4 (hB.trans (hSk4.mono hB.size))) ((rowHeap (k := 1) (enc := strCell) (l := [kA, kC]) (T := 9) (fun _ => rfl) hxu3 (by decide)).to hbk4) (by first | omega | decide) two_drop_ac).mono ?_; rintro e m4 ⟨B1, n1, c1, B2, n2, c2, B3, n3, c3, rfl, hao⟩; dsimp only [stNone])
   refine hK.out _ _ (below_S (Nat.le_refl _) hSk4 hao.below) (.inr (.inl hao.below)) ?_
   clear hK K hek4
   try simp only [Act.put, List.setIfInBounds_toArray, List.set_cons_zero, List.set_cons_succ])
  (refine kF.takeL (i := 5) (v := ?_) rfl (by kernel_rfl) (fun _ _ _ h => h) (Or.inl ⟨by rfl, ?_⟩) ?_
   rotate_left
   · (intro wS hSw; (try dsimp only at hSw); have hcS := fun b o (h : b < wL.heap.size) => hSw.cell (p := ⟨b, o, none⟩) h; go_simp; (try with_reducible rfl))
   try simp only [Act.put, List.setIfInBounds_toArray, List.set_cons_zero, List.set_cons_succ])
  (refine kF.takeL (i := 6) (v := ?_) rfl (by kernel_rfl) (fun _ _ _ h => h) (Or.inl ⟨by rfl, ?_⟩) ?_
   rotate_left
   · (intro wS hSw; (try dsimp only at hSw); have hcS := fun b o (h : b < wL.heap.size) => hSw.cell (p := ⟨b, o, none⟩) h; go_simp; (try with_reducible rfl))
   try simp only [Act.put, List.setIfInBounds_toArray, List.set_cons_zero, List.set_cons_succ])
  (refine kF.takeL (i := 7) (v := ?_) rfl (by kernel_rfl) (fun _ _ _ h => h) (Or.inl ⟨by rfl, ?_⟩) ?_
   rotate_left
   · (intro wS hSw; (try dsimp only at hSw); have hcS := fun b o (h : b < wL.heap.size) => hSw.cell (p := ⟨b, o, none⟩) h; go_simp; (try with_reducible rfl))
   try simp only [Act.put, List.setIfInBounds_toArray, List.set_cons_zero, List.set_cons_succ])
  ((refine kF.settleL (by kernel_rfl) (fun _ _ _ _ _ => Iff.rfl) (fun _ _ h1 h2 => below_S (Nat.le_refl _) h1 h2) (fun u8 hbu8 hSu8 v hv => ?_)
    obtain ⟨bu8, hBu8, rfl, hxu8⟩ := hv
    try simp only [Act.put, List.setIfInBounds_toArray, List.set_cons_zero, List.set_cons_succ])
   obtain ⟨l8, z0, z1, z2, z3, z4, z5, f8⟩ := box_cells hxu8
   have f0 := f8 0
   have f1 := f8 1
   have f2 := f8 2
   have f3 := f8 3
   have f4 := f8 4
   have f5 := f8 5
   clear f8
   (refine kF.lastL (j := 9) rfl (by kernel_rfl) (fun _ _ _ _ _ => Iff.rfl) (fun _ _ h1 h2 => below_S (Nat.le_refl _) h1 h2) (fun hSk K hK => ?_)
    go_simp
    refine hK.out _ _ (below6 hSk hBu8) ?_
    clear hK K
    try simp only [Act.put, List.setIfInBounds_toArray, List.set_cons_zero, List.set_cons_succ])
   (refine kF.takeL (i := 10) (v := ?_) rfl (by kernel_rfl) (fun _ _ _ h => h) (Or.inl ⟨by rfl, ?_⟩) ?_
    rotate_left
    · (intro wS hSw; (try dsimp only at hSw); have hcS := fun b o (h : b < wL.heap.size) => hSw.cell (p := ⟨b, o, none⟩) h; go_simp; (try with_reducible rfl))
    try simp only [Act.put, List.setIfInBounds_toArray, List.set_cons_zero, List.set_cons_succ])
   refine kF.done (by kernel_rfl) ?_
   have hB' : Below wL.heap.size wL ((((((u8.setCell ⟨bu8, 0, none⟩ (.int .i64 0)).setCell ⟨bu8, 1, none⟩ (.int .i64 0)).setCell ⟨bu8, 2, none⟩ (.int .i64 0)).setCell ⟨bu8, 3, none⟩ (.slice B1 n1 c1)).setCell ⟨bu8, 4, none⟩ (.slice B2 n2 c2)).setCell ⟨bu8, 5, none⟩ (.slice B3 n3 c3)) := hB.trans ((below6 hSu8 hBu8).mono hB.size))
  clear hxu3 hSu3 hbu3 hSk4 hbk4 hSk1 hbk1 hb1 hSk2 hbk2 hb2
  (clear l6 y0 y1 y2 y3 y4 y5 l8 z0 z1 z2 z3 z4 z5 f0 f1 f2 f3 f4 f5 hB hxu8 hSu8 hbu8 hSk hao
   generalize ((((((u8.setCell ⟨bu8, 0, none⟩ (.int .i64 0)).setCell ⟨bu8, 1, none⟩ (.int .i64 0)).setCell ⟨bu8, 2, none⟩ (.int .i64 0)).setCell ⟨bu8, 3, none⟩ (.slice B1 n1 c1)).setCell ⟨bu8, 4, none⟩ (.slice B2 n2 c2)).setCell ⟨bu8, 5, none⟩ (.slice B3 n3 c3)) = w24 at hB' ⊢
   have hB := hB'
   clear hB'
   obtain ⟨l6, y0, y1, y2, y3, y4, y5, -⟩ := box_cells (h6.out w24 hB))
  go_wp2_with fail
  refine (any_Drop (s := ixTwo) (v := twoV gS gA gP) (ds := []) (hTw.out w24 hB) RowAt.none_ (by first | omega | decide) two_drop_nil).mono ?_
  rintro e x4 ⟨B1, n1, c1, B2, n2, c2, B3, n3, c3, rfl, hao⟩
  dsimp only [ixTwo]
  go_upto_region 26 with fail
  have hB' : Below wL.heap.size wL (x4.alloc (.cells #[.int .i64 1, .int .i64 2, .int .i64 7, .slice B1 n1 c1, .slice B2 n2 c2, .slice B3 n3 c3] 29)) := (hB.trans (hao.below.mono hB.size)).alloc (hB.trans (hao.below.mono hB.size)).size _
  have hSm : StAt (x4.alloc (.cells #[.int .i64 1, .int .i64 2, .int .i64 7, .slice B1 n1 c1, .slice B2 n2 c2, .slice B3 n3 c3] 29)) (x4.alloc (.cells #[.int .i64 1, .int .i64 2, .int .i64 7, .slice B1 n1 c1, .slice B2 n2 c2, .slice B3 n3 c3] 29)).heap.size ⟨B1, n1, c1, B2, n2, c2, B3, n3, c3⟩ ixTwo := hao.st.to ((Below.refl _ x4).alloc (Nat.le_refl _) _)
  have hH : (x4.alloc (.cells #[.int .i64 1, .int .i64 2, .int .i64 7, .slice B1 n1 c1, .slice B2 n2 c2, .slice B3 n3 c3] 29)).heap[x4.heap.size]? = some (.cells #[.int .i64 1, .int .i64 2, .int .i64 7, .slice B1 n1 c1, .slice B2 n2 c2, .slice B3 n3 c3] 29) := heap_alloc_new x4 _
  clear l6 y0 y1 y2 y3 y4 y5 hao hB
  generalize hg : x4.heap.size = q24 at hH ⊢
  clear hg
  generalize (x4.alloc (.cells #[.int .i64 1, .int .i64 2, .int .i64 7, .slice B1 n1 c1, .slice B2 n2 c2, .slice B3 n3 c3] 29)) = w25 at hB' hSm hH ⊢
  have hB := hB'
  clear hB'
  (replace h6 := Lib.hid fun W (hW : Below w25.heap.size w25 W) => h6.out W (hB.trans (hW.mono hB.size))
   replace hTw := Lib.hid fun W (hW : Below w25.heap.size w25 W) => hTw.out W (hB.trans (hW.mono hB.size))
   replace hwL := Lib.hid (And.intro (Nat.le_trans hwL.out.1 hB.size) (hwL.out.2.trans (hB.mono hwL.out.1))))
  replace h20 := Lib.hid fun W (hW : Below w25.heap.size w25 W) => h20.out W (hB.trans (hW.mono hB.size))
  replace hC20 := Lib.hid fun W (hW : Below w25.heap.size w25 W) => hC20.out W (hB.trans (hW.mono hB.size))
  have h24 := Lib.hid fun W (hW : Below w25.heap.size w25 W) => (hW.block _ (Array.getElem?_eq_some_iff.1 hH).1).trans hH
  have hS24 := Lib.hid fun W (hW : Below w25.heap.size w25 W) => hSm.to hW
  clear hB hH hSm
  obtain ⟨wL, rfl⟩ : ∃ x : World, x = w25 := ⟨_, rfl⟩
  have hB := Below.refl wL.heap.size wL
  obtain ⟨l6, y0, y1, y2, y3, y4, y5, -⟩ := box_cells (h6.out wL hB)
  go_wp2_with fail
  refine (any_Add (s := ixTwo) (v := twoV gS gA gP) (ds := []) (qs := []) (hTw.out wL hB) RowAt.none_ RowAt.none_ no_ok (by first | omega | decide) two_add_nil).mono ?_
  rintro e x4 ⟨B1, n1, c1, B2, n2, c2, B3, n3, c3, rfl, hao⟩
  dsimp only [stNone]
  go_upto_region 27 with fail
  (have hB' : Below wL.heap.size wL (x4.alloc (.cells #[.int .i64 0, .int .i64 0, .int .i64 0, .slice B1 n1 c1, .slice B2 n2 c2, .slice B3 n3 c3] 29)) := ((hB.trans (hao.below.mono hB.size)).alloc (hB.trans (hao.below.mono hB.size)).size _)
   clear l6 y0 y1 y2 y3 y4 y5 hB hao
   generalize (x4.alloc (.cells #[.int .i64 0, .int .i64 0, .int .i64 0, .slice B1 n1 c1, .slice B2 n2 c2, .slice B3 n3 c3] 29)) = w26 at hB' ⊢
   have hB := hB'
   clear hB'
   obtain ⟨l6, y0, y1, y2, y3, y4, y5, -⟩ := box_cells (h6.out w26 hB))
  refine region_krip (fun W : World => Below w26.heap.size w26 W) (by kernel_rfl) ((Below.refl _ _).drew) ?_
  (refine kF.takeL (i := 0) (v := ?_) rfl (by kernel_rfl) (fun _ _ _ h => h) (Or.inl ⟨by rfl, ?_⟩) ?_
   rotate_left
   · (intro wS hSw; (try dsimp only at hSw); have hcS := fun b o (h : b < w26.heap.size) => hSw.cell (p := ⟨b, o, none⟩) h; go_simp; (try with_reducible rfl))
   try simp only [Act.put, List.setIfInBounds_toArray, List.set_cons_zero, List.set_cons_succ])
  (refine kF.newL (i := 7) (fun b => .pointer (some ⟨b, 0, none⟩)) (.cells #[.int .i64 0, .int .i64 0, .int .i64 0, .slice none 0 0, .slice none 0 0, .slice none 0 0] 29) rfl (by kernel_rfl) (by rfl) ?_ ?_
   · (intro wS; go_simp; (try with_reducible rfl)))
  (refine kF.onlyL (j := 1) rfl (by kernel_rfl) (fun _ _ _ _ _ => Iff.rfl) (fun _ _ h1 h2 => below_S (Nat.le_refl _) h1 h2) (fun k1 hbk1 hek1 hSk1 K hK => ?_)
   (go_simp; refine (law17_d 99 _).mono ?_; rintro e m1 ⟨rfl, hb1⟩)
   refine hK.out _ _ (below_S (Nat.le_refl _) hSk1 hb1) (.inr (.inl hb1)) ?_
   clear hK K hek1
   try simp only [Act.put, List.setIfInBounds_toArray, List.set_cons_zero, List.set_cons_succ])
  (refine kF.newL (i := 2) (fun b => .slice (some ⟨b, 0, none⟩) 1 1) (.cells #[.string (letterRoot 99)] 9) rfl (by kernel_rfl) (by rfl) ?_ ?_
   · (intro wS; go_simp; (try with_reducible rfl)))
  (refine kF.settleL (by kernel_rfl) (fun _ _ _ _ _ => Iff.rfl) (fun _ _ h1 h2 => below_S (Nat.le_refl _) h1 h2) (fun u2 hbu2 hSu2 v hv => ?_)
   obtain ⟨bu2, hBu2, rfl, hxu2⟩ := hv
   try simp only [Act.put, List.setIfInBounds_toArray, List.set_cons_zero, List.set_cons_succ])
  (refine kF.onlyL (j := 3) rfl (by kernel_rfl) (fun _ _ _ _ _ => Iff.rfl) (fun _ _ h1 h2 => below_S (Nat.le_refl _) h1 h2) (fun k3 hbk3 hek3 hSk3 K hK => ?_)
   (go_simp; refine (any_Add (s := ixTwo) (v := twoV gS gA gP) (ds := [kC]) (qs := []) (hTw.out k3 (hB.trans (hSk3.mono hB.size))) ((rowHeap (k := 1) (enc := strCell) (l := [kC]) (T := 9) (fun _ => rfl) hxu2 (by decide)).to hbk3) RowAt.none_ no_ok (by first | omega | decide) two_add_c).mono ?_; rintro e m3 ⟨B1, n1, c1, B2, n2, c2, B3, n3, c3, rfl, hao⟩; dsimp only [stNone])
   refine hK.out _ _ (below_S (Nat.le_refl _) hSk3 hao.below) (.inr (.inl hao.below)) ?_
   clear hK K hek3
   try simp only [Act.put, List.setIfInBounds_toArray, List.set_cons_zero, List.set_cons_succ])
  (refine kF.takeL (i := 4) (v := ?_) rfl (by kernel_rfl) (fun _ _ _ h => h) (Or.inl ⟨by rfl, ?_⟩) ?_
   rotate_left
   · (intro wS hSw; (try dsimp only at hSw); have hcS := fun b o (h : b < w26.heap.size) => hSw.cell (p := ⟨b, o, none⟩) h; go_simp; (try with_reducible rfl))
   try simp only [Act.put, List.setIfInBounds_toArray, List.set_cons_zero, List.set_cons_succ])
  (refine kF.takeL (i := 5) (v := ?_) rfl (by kernel_rfl) (fun _ _ _ h => h) (Or.inl ⟨by rfl, ?_⟩) ?_
   rotate_left
   · (intro wS hSw; (try dsimp only at hSw); have hcS := fun b o (h : b < w26.heap.size) => hSw.cell (p := ⟨b, o, none⟩) h; go_simp; (try with_reducible rfl))
   try simp only [Act.put, List.setIfInBounds_toArray, List.set_cons_zero, List.set_cons_succ])
  (refine kF.takeL (i := 6) (v := ?_) rfl (by kernel_rfl) (fun _ _ _ h => h) (Or.inl ⟨by rfl, ?_⟩) ?_
   rotate_left
   · (intro wS hSw; (try dsimp only at hSw); have hcS := fun b o (h : b < w26.heap.size) => hSw.cell (p := ⟨b, o, none⟩) h; go_simp; (try with_reducible rfl))
   try simp only [Act.put, List.setIfInBounds_toArray, List.set_cons_zero, List.set_cons_succ])
  ((refine kF.settleL (by kernel_rfl) (fun _ _ _ _ _ => Iff.rfl) (fun _ _ h1 h2 => below_S (Nat.le_refl _) h1 h2) (fun u7 hbu7 hSu7 v hv => ?_)
    obtain ⟨bu7, hBu7, rfl, hxu7⟩ := hv
    try simp only [Act.put, List.setIfInBounds_toArray, List.set_cons_zero, List.set_cons_succ])
   obtain ⟨l8, z0, z1, z2, z3, z4, z5, f8⟩ := box_cells hxu7
   have f0 := f8 0
   have f1 := f8 1
   have f2 := f8 2
   have f3 := f8 3
   have f4 := f8 4
   have f5 := f8 5
   clear f8
   (refine kF.lastL (j := 8) rfl (by kernel_rfl) (fun _ _ _ _ _ => Iff.rfl) (fun _ _ h1 h2 => below_S (Nat.le_refl _) h1 h2) (fun hSk K hK => ?_)
    go_simp
    refine hK.out _ _ (below6 hSk hBu7) ?_
    clear hK K
    try simp only [Act.put, List.setIfInBounds_toArray, List.set_cons_zero, List.set_cons_succ])
   (refine kF.takeL (i := 9) (v := ?_) rfl (by kernel_rfl) (fun _ _ _ h => h) (Or.inl ⟨by rfl, ?_⟩) ?_
    rotate_left
    · (intro wS hSw; (try dsimp only at hSw); have hcS := fun b o (h : b < w26.heap.size) => hSw.cell (p := ⟨b, o, none⟩) h; go_simp; (try with_reducible rfl))
    try simp only [Act.put, List.setIfInBounds_toArray, List.set_cons_zero, List.set_cons_succ])
   refine kF.done (by kernel_rfl) ?_
   have hB' : Below wL.heap.size wL ((((((u7.setCell ⟨bu7, 0, none⟩ (.int .i64 0)).setCell ⟨bu7, 1, none⟩ (.int .i64 0)).setCell ⟨bu7, 2, none⟩ (.int .i64 0)).setCell ⟨bu7, 3, none⟩ (.slice B1 n1 c1)).setCell ⟨bu7, 4, none⟩ (.slice B2 n2 c2)).setCell ⟨bu7, 5, none⟩ (.slice B3 n3 c3)) := hB.trans ((below6 hSu7 hBu7).mono hB.size))
  clear hxu2 hSu2 hbu2 hSk3 hbk3 hSk1 hbk1 hb1
  (clear l6 y0 y1 y2 y3 y4 y5 l8 z0 z1 z2 z3 z4 z5 f0 f1 f2 f3 f4 f5 hB hxu7 hSu7 hbu7 hSk hao
   generalize ((((((u7.setCell ⟨bu7, 0, none⟩ (.int .i64 0)).setCell ⟨bu7, 1, none⟩ (.int .i64 0)).setCell ⟨bu7, 2, none⟩ (.int .i64 0)).setCell ⟨bu7, 3, none⟩ (.slice B1 n1 c1)).setCell ⟨bu7, 4, none⟩ (.slice B2 n2 c2)).setCell ⟨bu7, 5, none⟩ (.slice B3 n3 c3)) = w27 at hB' ⊢
   have hB := hB'
   clear hB'
   obtain ⟨l6, y0, y1, y2, y3, y4, y5, -⟩ := box_cells (h6.out w27 hB))
  go_upto_region 28 with fail
  refine region_krip (fun W : World => Below w27.heap.size w27 W) (by kernel_rfl) ((Below.refl _ _).drew) ?_
  (refine kF.takeL (i := 0) (v := ?_) rfl (by kernel_rfl) (fun _ _ _ h => h) (Or.inl ⟨by rfl, ?_⟩) ?_
   rotate_left
   · (intro wS hSw; (try dsimp only at hSw); have hcS := fun b o (h : b < w27.heap.size) => hSw.cell (p := ⟨b, o, none⟩) h; go_simp; (try with_reducible rfl))
   try simp only [Act.put, List.setIfInBounds_toArray, List.set_cons_zero, List.set_cons_succ])
  (refine kF.newL (i := 11) (fun b => .pointer (some ⟨b, 0, none⟩)) (.cells #[.int .i64 0, .int .i64 0, .int .i64 0, .slice none 0 0, .slice none 0 0, .slice none 0 0] 29) rfl (by kernel_rfl) (by rfl) ?_ ?_
   · (intro wS; go_simp; (try with_reducible rfl)))
  (refine kF.onlyL (j := 1) rfl (by kernel_rfl) (fun _ _ _ _ _ => Iff.rfl) (fun _ _ h1 h2 => below_S (Nat.le_refl _) h1 h2) (fun k1 hbk1 hek1 hSk1 K hK => ?_)
   (go_simp; refine (law17_d 99 _).mono ?_; rintro e m1 ⟨rfl, hb1⟩)
   refine hK.out _ _ (below_S (Nat.le_refl _) hSk1 hb1) (.inr (.inl hb1)) ?_
   clear hK K hek1
   try simp only [Act.put, List.setIfInBounds_toArray, List.set_cons_zero, List.set_cons_succ])
  (refine kF.onlyL (j := 2) rfl (by kernel_rfl) (fun _ _ _ _ _ => Iff.rfl) (fun _ _ h1 h2 => below_S (Nat.le_refl _) h1 h2) (fun k2 hbk2 hek2 hSk2 K hK => ?_)
   (go_simp; refine (law17_d 99 _).mono ?_; rintro e m2 ⟨rfl, hb2⟩)
   refine hK.out _ _ (below_S (Nat.le_refl _) hSk2 hb2) (.inr (.inl hb2)) ?_
   clear hK K hek2
   try simp only [Act.put, List.setIfInBounds_toArray, List.set_cons_zero, List.set_cons_succ])
  (refine kF.newL (i := 3) (fun b => .slice (some ⟨b, 0, none⟩) 2 2) (.cells #[.string (letterRoot 99), .string (letterRoot 99)] 9) rfl (by kernel_rfl) (by rfl) ?_ ?_
   · (intro wS; go_simp; (try with_reducible rfl)))
  (refine kF.onlyL (j := 4) rfl (by kernel_rfl) (fun _ _ _ _ _ => Iff.rfl) (fun _ _ h1 h2 => below_S (Nat.le_refl _) h1 h2) (fun k4 hbk4 hek4 hSk4 K hK => ?_)
   (go_simp; refine (law17_at 113 0 1 _).mono ?_; rintro e m4 ⟨rfl, hb4⟩)
   refine hK.out _ _ (below_S (Nat.le_refl _) hSk4 hb4) (.inr (.inl hb4)) ?_
   clear hK K hek4
   try simp only [Act.put, List.setIfInBounds_toArray, List.set_cons_zero, List.set_cons_succ])
  (refine kF.onlyL (j := 5) rfl (by kernel_rfl) (fun _ _ _ _ _ => Iff.rfl) (fun _ _ h1 h2 => below_S (Nat.le_refl _) h1 h2) (fun k5 hbk5 hek5 hSk5 K hK => ?_)
   (go_simp; refine (law17_at 114 0 1 _).mono ?_; rintro e m5 ⟨rfl, hb5⟩)
   refine hK.out _ _ (below_S (Nat.le_refl _) hSk5 hb5) (.inr (.inl hb5)) ?_
   clear hK K hek5
   try simp only [Act.put, List.setIfInBounds_toArray, List.set_cons_zero, List.set_cons_succ])
  (refine kF.newL (i := 6) (fun b => .slice (some ⟨b, 0, none⟩) 2 2) (.cells #[.string (letterRoot 113), .int .i64 0, .int .i64 1, .string (letterRoot 114), .int .i64 0, .int .i64 1] 35) rfl (by kernel_rfl) (by rfl) ?_ ?_
   · (intro wS; go_simp; (try with_reducible rfl)))
  (refine kF.settleL (by kernel_rfl) (fun _ _ _ _ _ => Iff.rfl) (fun _ _ h1 h2 => below_S (Nat.le_refl _) h1 h2) (fun u6 hbu6 hSu6 v hv => ?_)
   obtain ⟨bu6, hBu6, rfl, hxu6⟩ := hv
   try simp only [Act.put, List.setIfInBounds_toArray, List.set_cons_zero, List.set_cons_succ])
  (refine kF.settleL (by kernel_rfl) (fun _ _ _ _ _ => Iff.rfl) (fun _ _ h1 h2 => below_S (Nat.le_refl _) h1 h2) (fun u3 hbu3 hSu3 v hv => ?_)
   obtain ⟨bu3, hBu3, rfl, hxu3⟩ := hv
   try simp only [Act.put, List.setIfInBounds_toArray, List.set_cons_zero, List.set_cons_succ])
  (refine kF.onlyL (j := 7) rfl (by kernel_rfl) (fun _ _ _ _ _ => Iff.rfl) (fun _ _ h1 h2 => below_S (Nat.le_refl _) h1 h2) (fun k7 hbk7 hek7 hSk7 K hK => ?_)
   (go_simp; refine (any_Add (s := ixTwo) (v := twoV gS gA gP) (ds := [kC, kC]) (qs := [adQ, adR]) (hTw.out k7 (hB.trans (hSk7.mono hB.size))) ((rowHeap (k := 1) (enc := strCell) (l := [kC, kC]) (T := 9) (fun _ => rfl) hxu3 (by decide)).to hbk7) (((rowHeap (k := 3) (enc := Place.cells) (l := [adQ, adR]) (T := 35) (fun _ => rfl) hxu6 (by decide)).to hbu3).to hbk7) adQR_ok (by first | omega | decide) two_add_cc).mono ?_; rintro e m7 ⟨B1, n1, c1, B2, n2, c2, B3, n3, c3, rfl, hao⟩; dsimp only [stNone])
   refine hK.out _ _ (below_S (Nat.le_refl _) hSk7 hao.below) (.inr (.inl hao.below)) ?_
   clear hK K hek7
   try simp only [Act.put, List.setIfInBounds_toArray, List.set_cons_zero, List.set_cons_succ])
  (refine kF.takeL (i := 8) (v := ?_) rfl (by kernel_rfl) (fun _ _ _ h => h) (Or.inl ⟨by rfl, ?_⟩) ?_
   rotate_left
   · (intro wS hSw; (try dsimp only at hSw); have hcS := fun b o (h : b < w27.heap.size) => hSw.cell (p := ⟨b, o, none⟩) h; go_simp; (try with_reducible rfl))
   try simp only [Act.put, List.setIfInBounds_toArray, List.set_cons_zero, List.set_cons_succ])
  (refine kF.takeL (i := 9) (v := ?_) rfl (by kernel_rfl) (fun _ _ _ h => h) (Or.inl ⟨by rfl, ?_⟩) ?_
   rotate_left
   · (intro wS hSw; (try dsimp only at hSw); have hcS := fun b o (h : b < w27.heap.size) => hSw.cell (p := ⟨b, o, none⟩) h; go_simp; (try with_reducible rfl))
   try simp only [Act.put, List.setIfInBounds_toArray, List.set_cons_zero, List.set_cons_succ])
  (refine kF.takeL (i := 10) (v := ?_) rfl (by kernel_rfl) (fun _ _ _ h => h) (Or.inl ⟨by rfl, ?_⟩) ?_
   rotate_left
   · (intro wS hSw; (try dsimp only at hSw); have hcS := fun b o (h : b < w27.heap.size) => hSw.cell (p := ⟨b, o, none⟩) h; go_simp; (try with_reducible rfl))
   try simp only [Act.put, List.setIfInBounds_toArray, List.set_cons_zero, List.set_cons_succ])
  ((refine kF.settleL (by kernel_rfl) (fun _ _ _ _ _ => Iff.rfl) (fun _ _ h1 h2 => below_S (Nat.le_refl _) h1 h2) (fun u11 hbu11 hSu11 v hv => ?_)
    obtain ⟨bu11, hBu11, rfl, hxu11⟩ := hv
    try simp only [Act.put, List.setIfInBounds_toArray, List.set_cons_zero, List.set_cons_succ])
   obtain ⟨l8, z0, z1, z2, z3, z4, z5, f8⟩ := box_cells hxu11
   have f0 := f8 0
   have f1 := f8 1
   have f2 := f8 2
   have f3 := f8 3
   have f4 := f8 4
   have f5 := f8 5
   clear f8
   (refine kF.lastL (j := 12) rfl (by kernel_rfl) (fun _ _ _ _ _ => Iff.rfl) (fun _ _ h1 h2 => below_S (Nat.le_refl _) h1 h2) (fun hSk K hK => ?_)
    go_simp
    refine hK.out _ _ (below6 hSk hBu11) ?_
    clear hK K
    try simp only [Act.put, List.setIfInBounds_toArray, List.set_cons_zero, List.set_cons_succ])
   (refine kF.takeL (i := 13) (v := ?_) rfl (by kernel_rfl) (fun _ _ _ h => h) (Or.inl ⟨by rfl, ?_⟩) ?_
    rotate_left
    · (intro wS hSw; (try dsimp only at hSw); have hcS := fun b o (h : b < w27.heap.size) => hSw.cell (p := ⟨b, o, none⟩) h; go_simp; (try with_reducible rfl))
    try simp only [Act.put, List.setIfInBounds_toArray, List.set_cons_zero, List.set_cons_succ])
   refine kF.done (by kernel_rfl) ?_
   have hB' : Below wL.heap.size wL ((((((u11.setCell ⟨bu11, 0, none⟩ (.int .i64 0)).setCell ⟨bu11, 1, none⟩ (.int .i64 0)).setCell ⟨bu11, 2, none⟩ (.int .i64 0)).setCell ⟨bu11, 3, none⟩ (.slice B1 n1 c1)).setCell ⟨bu11, 4, none⟩ (.slice B2 n2 c2)).setCell ⟨bu11, 5, none⟩ (.slice B3 n3 c3)) := hB.trans ((below6 hSu11 hBu11).mono hB.size))
  clear hxu3 hSu3 hbu3 hxu6 hSu6 hbu6 hSk7 hbk7 hSk1 hbk1 hb1 hSk2 hbk2 hb2 hSk4 hbk4 hb4 hSk5 hbk5 hb5
  (clear l6 y0 y1 y2 y3 y4 y5 l8 z0 z1 z2 z3 z4 z5 f0 f1 f2 f3 f4 f5 hB hxu11 hSu11 hbu11 hSk hao
   generalize ((((((u11.setCell ⟨bu11, 0, none⟩ (.int .i64 0)).setCell ⟨bu11, 1, none⟩ (.int .i64 0)).setCell ⟨bu11, 2, none⟩ (.int .i64 0)).setCell ⟨bu11, 3, none⟩ (.slice B1 n1 c1)).setCell ⟨bu11, 4, none⟩ (.slice B2 n2 c2)).setCell ⟨bu11, 5, none⟩ (.slice B3 n3 c3)) = w28 at hB' ⊢
   have hB := hB'
   clear hB'
   obtain ⟨l6, y0, y1, y2, y3, y4, y5, -⟩ := box_cells (h6.out w28 hB))
  (clear l6 y0 y1 y2 y3 y4 y5
   go_wp2_with fail
   refine (law17_full 400 (by decide) _).mono ?_
   rintro e x1 ⟨FA, fc, FB, fd, rfl, hst, hb1⟩
   go_wp2_with fail
   refine (law17_d 99 _).mono ?_
   rintro e x2 ⟨rfl, hb2⟩
   have hS := (Nb.start hb2).alloc (.cells #[.string (letterRoot 99)] 9)
   go_wp2_with fail
   refine (law17_at 113 0 1 _).mono ?_
   rintro e x3 ⟨rfl, hb3⟩
   have hS3 := (hS.below hb3).alloc (.cells #[.string (letterRoot 113), .int .i64 0, .int .i64 1] 35)
   go_wp2_with fail
   refine (any_Add (s := fulS 400) (v := ⟨none, 0, 0, FA, 400, fc, FB, 400, fd⟩) (ds := [kC]) (qs := [adQ]) (hst.to hS3.bel) (rowHeap (k := 1) (enc := strCell) (l := [kC]) (T := 9) (fun _ => rfl) (hS3.mem (q := x2.heap.size) (o := .cells #[.string (letterRoot 99)] 9) (by simp)) (by decide)) (rowHeap (k := 3) (enc := Place.cells) (l := [adQ]) (T := 35) (fun _ => rfl) (hS3.mem (q := x3.heap.size) (o := .cells #[.string (letterRoot 113), .int .i64 0, .int .i64 1] 35) (by simp)) (by decide)) adQ_ok (by decide) ful_add400).mono ?_
   rintro e x4 ⟨B1, n1, c1, B2, n2, c2, B3, n3, c3, rfl, hao⟩
   have hbx : Below wL.heap.size wL x4 := ((hB.trans (hb1.mono hB.size)).trans (hS3.bel.mono (hB.trans (hb1.mono hB.size)).size)).trans (hao.below.mono (by have := hB.size; have := hb1.size; have := hS3.bel.size; omega))
   clear hst hb1 hb2 hb3 hS hS3 hB)
  dsimp only [stNone]
  go_upto_region 30 with fail
  have hB : Below wL.heap.size wL (x4.alloc (.cells #[.int .i64 0, .int .i64 0, .int .i64 0, .slice B1 n1 c1, .slice B2 n2 c2, .slice B3 n3 c3] 29)) := hbx.alloc hbx.size _
  clear hbx hao
  generalize (x4.alloc (.cells #[.int .i64 0, .int .i64 0, .int .i64 0, .slice B1 n1 c1, .slice B2 n2 c2, .slice B3 n3 c3] 29)) = w29 at hB ⊢
  obtain ⟨l6, y0, y1, y2, y3, y4, y5, -⟩ := box_cells (h6.out w29 hB)
  obtain ⟨s9, hs9⟩ := ful_add399
  (clear l6 y0 y1 y2 y3 y4 y5
   go_wp2_with fail
   refine (law17_full 399 (by decide) _).mono ?_
   rintro e x1 ⟨FA, fc, FB, fd, rfl, hst, hb1⟩
   go_wp2_with fail
   refine (law17_d 99 _).mono ?_
   rintro e x2 ⟨rfl, hb2⟩
   have hS := (Nb.start hb2).alloc (.cells #[.string (letterRoot 99)] 9)
   go_wp2_with fail
   refine (law17_at 113 0 1 _).mono ?_
   rintro e x3 ⟨rfl, hb3⟩
   have hS3 := (hS.below hb3).alloc (.cells #[.string (letterRoot 113), .int .i64 0, .int .i64 1] 35)
   go_wp2_with fail
   refine (any_Add (s := fulS 399) (v := ⟨none, 0, 0, FA, 399, fc, FB, 399, fd⟩) (ds := [kC]) (qs := [adQ]) (hst.to hS3.bel) (rowHeap (k := 1) (enc := strCell) (l := [kC]) (T := 9) (fun _ => rfl) (hS3.mem (q := x2.heap.size) (o := .cells #[.string (letterRoot 99)] 9) (by simp)) (by decide)) (rowHeap (k := 3) (enc := Place.cells) (l := [adQ]) (T := 35) (fun _ => rfl) (hS3.mem (q := x3.heap.size) (o := .cells #[.string (letterRoot 113), .int .i64 0, .int .i64 1] 35) (by simp)) (by decide)) adQ_ok (by decide) hs9).mono ?_
   rintro e x4 ⟨B1, n1, c1, B2, n2, c2, B3, n3, c3, rfl, hao⟩
   have hbx : Below wL.heap.size wL x4 := ((hB.trans (hb1.mono hB.size)).trans (hS3.bel.mono (hB.trans (hb1.mono hB.size)).size)).trans (hao.below.mono (by have := hB.size; have := hb1.size; have := hS3.bel.size; omega))
   clear hst hb1 hb2 hb3 hS hS3 hB)
  go_upto_region 31 with fail
  have hB : Below wL.heap.size wL (x4.alloc (.cells #[.int .i64 s9.k, .int .i64 s9.n, .int .i64 s9.next, .slice B1 n1 c1, .slice B2 n2 c2, .slice B3 n3 c3] 29)) := hbx.alloc hbx.size _
  clear hbx hao
  generalize (x4.alloc (.cells #[.int .i64 s9.k, .int .i64 s9.n, .int .i64 s9.next, .slice B1 n1 c1, .slice B2 n2 c2, .slice B3 n3 c3] 29)) = w30 at hB ⊢
  obtain ⟨l6, y0, y1, y2, y3, y4, y5, -⟩ := box_cells (h6.out w30 hB)
  refine region_krip (fun W : World => Below w30.heap.size w30 W) (by kernel_rfl) ((Below.refl _ _).drew) ?_
  (refine kF.takeL (i := 0) (v := ?_) rfl (by kernel_rfl) (fun _ _ _ h => h) (Or.inl ⟨by rfl, ?_⟩) ?_
   rotate_left
   · (intro wS hSw; (try dsimp only at hSw); have hcS := fun b o (h : b < w30.heap.size) => hSw.cell (p := ⟨b, o, none⟩) h; go_simp; (try with_reducible rfl))
   try simp only [Act.put, List.setIfInBounds_toArray, List.set_cons_zero, List.set_cons_succ])
  (refine kF.newL (i := 8) (fun b => .pointer (some ⟨b, 0, none⟩)) (.cells #[.int .i64 0, .int .i64 0, .int .i64 0, .slice none 0 0, .slice none 0 0, .slice none 0 0] 29) rfl (by kernel_rfl) (by rfl) ?_ ?_
   · (intro wS; go_simp; (try with_reducible rfl)))
  (refine kF.newL (i := 1) (fun b => .slice (some ⟨b, 0, none⟩) 1 1) (.cells #[.string ⟨#[99]⟩] 9) rfl (by kernel_rfl) (by rfl) ?_ ?_
   · (intro wS; go_simp; (try with_reducible rfl)))
  (refine kF.onlyL (j := 2) rfl (by kernel_rfl) (fun _ _ _ _ _ => Iff.rfl) (fun _ _ h1 h2 => below_S (Nat.le_refl _) h1 h2) (fun k2 hbk2 hek2 hSk2 K hK => ?_)
   (go_simp; refine (law17_at 113 0 1 _).mono ?_; rintro e m2 ⟨rfl, hb2⟩)
   refine hK.out _ _ (below_S (Nat.le_refl _) hSk2 hb2) (.inr (.inl hb2)) ?_
   clear hK K hek2
   try simp only [Act.put, List.setIfInBounds_toArray, List.set_cons_zero, List.set_cons_succ])
  (refine kF.newL (i := 3) (fun b => .slice (some ⟨b, 0, none⟩) 1 1) (.cells #[.string (letterRoot 113), .int .i64 0, .int .i64 1] 35) rfl (by kernel_rfl) (by rfl) ?_ ?_
   · (intro wS; go_simp; (try with_reducible rfl)))
  (refine kF.settleL (by kernel_rfl) (fun _ _ _ _ _ => Iff.rfl) (fun _ _ h1 h2 => below_S (Nat.le_refl _) h1 h2) (fun u3 hbu3 hSu3 v hv => ?_)
   obtain ⟨bu3, hBu3, rfl, hxu3⟩ := hv
   try simp only [Act.put, List.setIfInBounds_toArray, List.set_cons_zero, List.set_cons_succ])
  (refine kF.settleL (by kernel_rfl) (fun _ _ _ _ _ => Iff.rfl) (fun _ _ h1 h2 => below_S (Nat.le_refl _) h1 h2) (fun u1 hbu1 hSu1 v hv => ?_)
   obtain ⟨bu1, hBu1, rfl, hxu1⟩ := hv
   try simp only [Act.put, List.setIfInBounds_toArray, List.set_cons_zero, List.set_cons_succ])
  (refine kF.onlyL (j := 4) rfl (by kernel_rfl) (fun _ _ _ _ _ => Iff.rfl) (fun _ _ h1 h2 => below_S (Nat.le_refl _) h1 h2) (fun k4 hbk4 hek4 hSk4 K hK => ?_)
   (go_simp; refine (any_Add (s := ixTwo) (v := twoV gS gA gP) (ds := [⟨#[99]⟩]) (qs := [adQ]) (hTw.out k4 (hB.trans (hSk4.mono hB.size))) ((rowHeap (k := 1) (enc := strCell) (l := [⟨#[99]⟩]) (T := 9) (fun _ => rfl) hxu1 (by decide)).to hbk4) (((rowHeap (k := 3) (enc := Place.cells) (l := [adQ]) (T := 35) (fun _ => rfl) hxu3 (by decide)).to hbu1).to hbk4) adQ_ok (by first | omega | decide) two_add_short).mono ?_; rintro e m4 ⟨B1, n1, c1, B2, n2, c2, B3, n3, c3, rfl, hao⟩; dsimp only [stNone])
   refine hK.out _ _ (below_S (Nat.le_refl _) hSk4 hao.below) (.inr (.inl hao.below)) ?_
   clear hK K hek4
   try simp only [Act.put, List.setIfInBounds_toArray, List.set_cons_zero, List.set_cons_succ])
  (refine kF.takeL (i := 5) (v := ?_) rfl (by kernel_rfl) (fun _ _ _ h => h) (Or.inl ⟨by rfl, ?_⟩) ?_
   rotate_left
   · (intro wS hSw; (try dsimp only at hSw); have hcS := fun b o (h : b < w30.heap.size) => hSw.cell (p := ⟨b, o, none⟩) h; go_simp; (try with_reducible rfl))
   try simp only [Act.put, List.setIfInBounds_toArray, List.set_cons_zero, List.set_cons_succ])
  (refine kF.takeL (i := 6) (v := ?_) rfl (by kernel_rfl) (fun _ _ _ h => h) (Or.inl ⟨by rfl, ?_⟩) ?_
   rotate_left
   · (intro wS hSw; (try dsimp only at hSw); have hcS := fun b o (h : b < w30.heap.size) => hSw.cell (p := ⟨b, o, none⟩) h; go_simp; (try with_reducible rfl))
   try simp only [Act.put, List.setIfInBounds_toArray, List.set_cons_zero, List.set_cons_succ])
  (refine kF.takeL (i := 7) (v := ?_) rfl (by kernel_rfl) (fun _ _ _ h => h) (Or.inl ⟨by rfl, ?_⟩) ?_
   rotate_left
   · (intro wS hSw; (try dsimp only at hSw); have hcS := fun b o (h : b < w30.heap.size) => hSw.cell (p := ⟨b, o, none⟩) h; go_simp; (try with_reducible rfl))
   try simp only [Act.put, List.setIfInBounds_toArray, List.set_cons_zero, List.set_cons_succ])
  ((refine kF.settleL (by kernel_rfl) (fun _ _ _ _ _ => Iff.rfl) (fun _ _ h1 h2 => below_S (Nat.le_refl _) h1 h2) (fun u8 hbu8 hSu8 v hv => ?_)
    obtain ⟨bu8, hBu8, rfl, hxu8⟩ := hv
    try simp only [Act.put, List.setIfInBounds_toArray, List.set_cons_zero, List.set_cons_succ])
   obtain ⟨l8, z0, z1, z2, z3, z4, z5, f8⟩ := box_cells hxu8
   have f0 := f8 0
   have f1 := f8 1
   have f2 := f8 2
   have f3 := f8 3
   have f4 := f8 4
   have f5 := f8 5
   clear f8
   (refine kF.lastL (j := 9) rfl (by kernel_rfl) (fun _ _ _ _ _ => Iff.rfl) (fun _ _ h1 h2 => below_S (Nat.le_refl _) h1 h2) (fun hSk K hK => ?_)
    go_simp
    refine hK.out _ _ (below6 hSk hBu8) ?_
    clear hK K
    try simp only [Act.put, List.setIfInBounds_toArray, List.set_cons_zero, List.set_cons_succ])
   (refine kF.takeL (i := 10) (v := ?_) rfl (by kernel_rfl) (fun _ _ _ h => h) (Or.inl ⟨by rfl, ?_⟩) ?_
    rotate_left
    · (intro wS hSw; (try dsimp only at hSw); have hcS := fun b o (h : b < w30.heap.size) => hSw.cell (p := ⟨b, o, none⟩) h; go_simp; (try with_reducible rfl))
    try simp only [Act.put, List.setIfInBounds_toArray, List.set_cons_zero, List.set_cons_succ])
   refine kF.done (by kernel_rfl) ?_
   have hB' : Below wL.heap.size wL ((((((u8.setCell ⟨bu8, 0, none⟩ (.int .i64 0)).setCell ⟨bu8, 1, none⟩ (.int .i64 0)).setCell ⟨bu8, 2, none⟩ (.int .i64 0)).setCell ⟨bu8, 3, none⟩ (.slice B1 n1 c1)).setCell ⟨bu8, 4, none⟩ (.slice B2 n2 c2)).setCell ⟨bu8, 5, none⟩ (.slice B3 n3 c3)) := hB.trans ((below6 hSu8 hBu8).mono hB.size))
  clear hxu3 hSu3 hbu3 hxu1 hSu1 hbu1 hSk4 hbk4 hSk2 hbk2 hb2
  (clear l6 y0 y1 y2 y3 y4 y5 l8 z0 z1 z2 z3 z4 z5 f0 f1 f2 f3 f4 f5 hB hxu8 hSu8 hbu8 hSk hao
   generalize ((((((u8.setCell ⟨bu8, 0, none⟩ (.int .i64 0)).setCell ⟨bu8, 1, none⟩ (.int .i64 0)).setCell ⟨bu8, 2, none⟩ (.int .i64 0)).setCell ⟨bu8, 3, none⟩ (.slice B1 n1 c1)).setCell ⟨bu8, 4, none⟩ (.slice B2 n2 c2)).setCell ⟨bu8, 5, none⟩ (.slice B3 n3 c3)) = w31 at hB' ⊢
   have hB := hB'
   clear hB'
   obtain ⟨l6, y0, y1, y2, y3, y4, y5, -⟩ := box_cells (h6.out w31 hB))
  go_upto_region 32 with fail
  refine region_krip (fun W : World => Below w31.heap.size w31 W) (by kernel_rfl) ((Below.refl _ _).drew) ?_
  (refine kF.takeL (i := 0) (v := ?_) rfl (by kernel_rfl) (fun _ _ _ h => h) (Or.inl ⟨by rfl, ?_⟩) ?_
   rotate_left
   · (intro wS hSw; (try dsimp only at hSw); have hcS := fun b o (h : b < w31.heap.size) => hSw.cell (p := ⟨b, o, none⟩) h; go_simp; (try with_reducible rfl))
   try simp only [Act.put, List.setIfInBounds_toArray, List.set_cons_zero, List.set_cons_succ])
  (refine kF.lastL (j := 1) rfl (by kernel_rfl) (fun _ _ _ _ _ => Iff.rfl) (fun _ _ h1 h2 => below_S (Nat.le_refl _) h1 h2) (fun hSk K hK => ?_)
   (go_simp; refine (law17_d 112 _).mono ?_; rintro e m1 ⟨rfl, hb1⟩; have hS1 := hSk.trans (hb1.mono hSk.size))
   refine hK.out _ _ (below_S (Nat.le_refl _) hSk hb1) ?_
   clear hK K
   try simp only [Act.put, List.setIfInBounds_toArray, List.set_cons_zero, List.set_cons_succ])
  clear hSk
  (refine kF.lastL (j := 2) rfl (by kernel_rfl) (fun _ _ _ _ _ => Iff.rfl) (fun _ _ h1 h2 => below_S (Nat.le_refl _) h1 h2) (fun hSk K hK => ?_)
   (go_simp; refine (two_Of_p (v := twoV gS gA gP) (hTw.out m1 (hB.trans (hS1.mono hB.size)))).mono ?_; rintro e m2 ⟨A5, n5, c5, A6, n6, c6, rfl, hD5, hP6, hb2⟩)
   refine hK.out _ _ (below_S (Nat.le_refl _) hSk hb2) ?_
   clear hK K
   try simp only [Act.put, List.setIfInBounds_toArray, List.set_cons_zero, List.set_cons_succ])
  (refine kF.takeL (i := 3) (v := ?_) rfl (by kernel_rfl) (fun _ _ _ h => h) (Or.inl ⟨by rfl, ?_⟩) ?_
   rotate_left
   · (intro wS hSw; (try dsimp only at hSw); have hcS := fun b o (h : b < w31.heap.size) => hSw.cell (p := ⟨b, o, none⟩) h; go_simp; (try with_reducible rfl))
   try simp only [Act.put, List.setIfInBounds_toArray, List.set_cons_zero, List.set_cons_succ])
  (refine kF.takeL (i := 4) (v := ?_) rfl (by kernel_rfl) (fun _ _ _ h => h) (Or.inl ⟨by rfl, ?_⟩) ?_
   rotate_left
   · (intro wS hSw; (try dsimp only at hSw); have hcS := fun b o (h : b < w31.heap.size) => hSw.cell (p := ⟨b, o, none⟩) h; go_simp; (try with_reducible rfl))
   try simp only [Act.put, List.setIfInBounds_toArray, List.set_cons_zero, List.set_cons_succ])
  (refine kF.takeL (i := 5) (v := ?_) rfl (by kernel_rfl) (fun _ _ _ h => h) (Or.inl ⟨by rfl, ?_⟩) ?_
   rotate_left
   · (intro wS hSw; (try dsimp only at hSw); have hcS := fun b o (h : b < w31.heap.size) => hSw.cell (p := ⟨b, o, none⟩) h; go_simp; (try with_reducible rfl))
   try simp only [Act.put, List.setIfInBounds_toArray, List.set_cons_zero, List.set_cons_succ])
  (refine kF.takeL (i := 6) (v := ?_) rfl (by kernel_rfl) (fun _ _ _ h => h) (Or.inl ⟨by rfl, ?_⟩) ?_
   rotate_left
   · (intro wS hSw; (try dsimp only at hSw); have hcS := fun b o (h : b < w31.heap.size) => hSw.cell (p := ⟨b, o, none⟩) h; go_simp; (try with_reducible rfl))
   try simp only [Act.put, List.setIfInBounds_toArray, List.set_cons_zero, List.set_cons_succ])
  (refine kF.takeL (i := 7) (v := ?_) rfl (by kernel_rfl) (fun _ _ _ h => h) (Or.inl ⟨by rfl, ?_⟩) ?_
   rotate_left
   · (intro wS hSw; (try dsimp only at hSw); have hcS := fun b o (h : b < w31.heap.size) => hSw.cell (p := ⟨b, o, none⟩) h; go_simp; (try with_reducible rfl))
   try simp only [Act.put, List.setIfInBounds_toArray, List.set_cons_zero, List.set_cons_succ])
  (refine kF.takeL (i := 8) (v := ?_) rfl (by kernel_rfl) (fun _ _ _ h => h) (Or.inl ⟨by rfl, ?_⟩) ?_
   rotate_left
   · (intro wS hSw; (try dsimp only at hSw); have hcS := fun b o (h : b < w31.heap.size) => hSw.cell (p := ⟨b, o, none⟩) h; go_simp; (try with_reducible rfl))
   try simp only [Act.put, List.setIfInBounds_toArray, List.set_cons_zero, List.set_cons_succ])
  (refine kF.takeL (i := 9) (v := ?_) rfl (by kernel_rfl) (fun _ _ _ h => h) (Or.inl ⟨by rfl, ?_⟩) ?_
   rotate_left
   · (intro wS hSw; (try dsimp only at hSw); have hcS := fun b o (h : b < w31.heap.size) => hSw.cell (p := ⟨b, o, none⟩) h; go_simp; (try with_reducible rfl))
   try simp only [Act.put, List.setIfInBounds_toArray, List.set_cons_zero, List.set_cons_succ])
  refine kF.done (by kernel_rfl) ?_
  have hB' : Below wL.heap.size wL m2 := (hB.trans (hS1.mono hB.size)).trans (hb2.mono (hB.trans (hS1.mono hB.size)).size)
  clear l6 y0 y1 y2 y3 y4 y5 hB hS1 hb1 hb2 hSk
  have hB := hB'
  clear hB'
  obtain rfl : n6 = 2 := hP6.1.symm
  obtain ⟨b6, o6, p6, rfl, l66, hp6, -, ha6, -⟩ := hP6.place (i := 0) (by first | omega | decide)
  obtain rfl : p6 = ⟨kP, 0, 5⟩ := by simpa using hp6.symm
  dsimp only at ha6
  (replace h6 := Lib.hid fun W (hW : Below m2.heap.size m2 W) => h6.out W (hB.trans (hW.mono hB.size))
   replace hTw := Lib.hid fun W (hW : Below m2.heap.size m2 W) => hTw.out W (hB.trans (hW.mono hB.size))
   replace hwL := Lib.hid (And.intro (Nat.le_trans hwL.out.1 hB.size) (hwL.out.2.trans (hB.mono hwL.out.1))))
  replace h20 := Lib.hid fun W (hW : Below m2.heap.size m2 W) => h20.out W (hB.trans (hW.mono hB.size))
  replace hC20 := Lib.hid fun W (hW : Below m2.heap.size m2 W) => hC20.out W (hB.trans (hW.mono hB.size))
  replace h24 := Lib.hid fun W (hW : Below m2.heap.size m2 W) => h24.out W (hB.trans (hW.mono hB.size))
  replace hS24 := Lib.hid fun W (hW : Below m2.heap.size m2 W) => hS24.out W (hB.trans (hW.mono hB.size))
  replace hD5 := Lib.hid fun W (hW : Below m2.heap.size m2 W) => hD5.to hW
  replace ha6 := Lib.hid fun W (hW : Below m2.heap.size m2 W) => And.intro (Nat.lt_of_lt_of_le l66 hW.size) ((hW.cell (p := ⟨b6, o6 + 0 * 3 + 1, none⟩) l66).trans ha6)
  clear hB hP6 hp6 l66
  obtain ⟨wL, rfl⟩ : ∃ x : World, x = m2 := ⟨_, rfl⟩
  have hB := Below.refl wL.heap.size wL
  obtain ⟨l6, y0, y1, y2, y3, y4, y5, -⟩ := box_cells (h6.out wL hB)
  go_upto_region 33 with fail
  refine region_krip (fun W : World => Below wL.heap.size wL W) (by kernel_rfl) ((Below.refl _ _).drew) ?_
  (refine kF.takeL (i := 0) (v := ?_) rfl (by kernel_rfl) (fun _ _ _ h => h) (Or.inl ⟨by rfl, ?_⟩) ?_
   rotate_left
   · (intro wS hSw; (try dsimp only at hSw); have hcS := fun b o (h : b < wL.heap.size) => hSw.cell (p := ⟨b, o, none⟩) h; go_simp; (try with_reducible rfl))
   try simp only [Act.put, List.setIfInBounds_toArray, List.set_cons_zero, List.set_cons_succ])
  (refine kF.lastL (j := 1) rfl (by kernel_rfl) (fun _ _ _ _ _ => Iff.rfl) (fun _ _ h1 h2 => below_S (Nat.le_refl _) h1 h2) (fun hSk K hK => ?_)
   (go_simp; refine (law17_d 113 _).mono ?_; rintro e m1 ⟨rfl, hb1⟩; have hS1 := hSk.trans (hb1.mono hSk.size))
   refine hK.out _ _ (below_S (Nat.le_refl _) hSk hb1) ?_
   clear hK K
   try simp only [Act.put, List.setIfInBounds_toArray, List.set_cons_zero, List.set_cons_succ])
  clear hSk
  (refine kF.lastL (j := 2) rfl (by kernel_rfl) (fun _ _ _ _ _ => Iff.rfl) (fun _ _ h1 h2 => below_S (Nat.le_refl _) h1 h2) (fun hSk K hK => ?_)
   (go_simp; refine (two_Of_q (v := twoV gS gA gP) (hTw.out m1 (hB.trans (hS1.mono hB.size)))).mono ?_; rintro e m3 ⟨u7, u8, rfl, hb3⟩)
   refine hK.out _ _ (below_S (Nat.le_refl _) hSk hb3) ?_
   clear hK K
   try simp only [Act.put, List.setIfInBounds_toArray, List.set_cons_zero, List.set_cons_succ])
  (refine kF.takeL (i := 3) (v := ?_) rfl (by kernel_rfl) (fun _ _ _ h => h) (Or.inl ⟨by rfl, ?_⟩) ?_
   rotate_left
   · (intro wS hSw; (try dsimp only at hSw); have hcS := fun b o (h : b < wL.heap.size) => hSw.cell (p := ⟨b, o, none⟩) h; go_simp; (try with_reducible rfl))
   try simp only [Act.put, List.setIfInBounds_toArray, List.set_cons_zero, List.set_cons_succ])
  (refine kF.takeL (i := 4) (v := ?_) rfl (by kernel_rfl) (fun _ _ _ h => h) (Or.inl ⟨by rfl, ?_⟩) ?_
   rotate_left
   · (intro wS hSw; (try dsimp only at hSw); have hcS := fun b o (h : b < wL.heap.size) => hSw.cell (p := ⟨b, o, none⟩) h; go_simp; (try with_reducible rfl))
   try simp only [Act.put, List.setIfInBounds_toArray, List.set_cons_zero, List.set_cons_succ])
  (refine kF.takeL (i := 5) (v := ?_) rfl (by kernel_rfl) (fun _ _ _ h => h) (Or.inl ⟨by rfl, ?_⟩) ?_
   rotate_left
   · (intro wS hSw; (try dsimp only at hSw); have hcS := fun b o (h : b < wL.heap.size) => hSw.cell (p := ⟨b, o, none⟩) h; go_simp; (try with_reducible rfl))
   try simp only [Act.put, List.setIfInBounds_toArray, List.set_cons_zero, List.set_cons_succ])
  (refine kF.takeL (i := 6) (v := ?_) rfl (by kernel_rfl) (fun _ _ _ h => h) (Or.inl ⟨by rfl, ?_⟩) ?_
   rotate_left
   · (intro wS hSw; (try dsimp only at hSw); have hcS := fun b o (h : b < wL.heap.size) => hSw.cell (p := ⟨b, o, none⟩) h; go_simp; (try with_reducible rfl))
   try simp only [Act.put, List.setIfInBounds_toArray, List.set_cons_zero, List.set_cons_succ])
  (refine kF.takeL (i := 7) (v := ?_) rfl (by kernel_rfl) (fun _ _ _ h => h) (Or.inl ⟨by rfl, ?_⟩) ?_
   rotate_left
   · (intro wS hSw; (try dsimp only at hSw); have hcS := fun b o (h : b < wL.heap.size) => hSw.cell (p := ⟨b, o, none⟩) h; go_simp; (try with_reducible rfl))
   try simp only [Act.put, List.setIfInBounds_toArray, List.set_cons_zero, List.set_cons_succ])
  (refine kF.takeL (i := 8) (v := ?_) rfl (by kernel_rfl) (fun _ _ _ h => h) (Or.inl ⟨by rfl, ?_⟩) ?_
   rotate_left
   · (intro wS hSw; (try dsimp only at hSw); have hcS := fun b o (h : b < wL.heap.size) => hSw.cell (p := ⟨b, o, none⟩) h; go_simp; (try with_reducible rfl))
   try simp only [Act.put, List.setIfInBounds_toArray, List.set_cons_zero, List.set_cons_succ])
  (refine kF.takeL (i := 9) (v := ?_) rfl (by kernel_rfl) (fun _ _ _ h => h) (Or.inl ⟨by rfl, ?_⟩) ?_
   rotate_left
   · (intro wS hSw; (try dsimp only at hSw); have hcS := fun b o (h : b < wL.heap.size) => hSw.cell (p := ⟨b, o, none⟩) h; go_simp; (try with_reducible rfl))
   try simp only [Act.put, List.setIfInBounds_toArray, List.set_cons_zero, List.set_cons_succ])
  refine kF.done (by kernel_rfl) ?_
  have hB' : Below wL.heap.size wL m3 := (hB.trans (hS1.mono hB.size)).trans (hb3.mono (hB.trans (hS1.mono hB.size)).size)
  clear l6 y0 y1 y2 y3 y4 y5 hB hS1 hb1 hb3 hSk
  have hB := hB'
  clear hB'
  go_wp2_with fail
  refine (law17_full 3 (by decide) _).mono ?_
  rintro e x1 ⟨FA, fc, FB, fd, rfl, hst, hb1⟩
  go_wp2_with fail
  refine (ful3_Packs (v := ⟨none, 0, 0, FA, 3, fc, FB, 3, fd⟩) hst).mono ?_
  rintro e x2 ⟨A7, n7, c7, rfl, hP7, hb2⟩
  have hx2 := (hB.trans (hb1.mono hB.size)).trans (hb2.mono (hB.trans (hb1.mono hB.size)).size)
  clear hst hb1 hb2 hB
  go_upto_region 35 with fail
  have hh20 := h20.out x2 hx2
  have hhC := hC20.out x2 hx2
  have hha := ha6.out x2 hx2
  simp only [Nat.add_zero, Nat.zero_mul] at hhC hha
  refine ix_last (by kernel_rfl) x2 _ _ _ _ _ _ _ _ _ _ _ _ _ _ _ _ _ _ _ _ _ _ _ _ _ _ _ _ _ _ _ _ _ _ _ _ _ _ _ _ _ _ _ _ _ _ _ _ _ _ _ _ _ _ _ _ _ _ _ _ _ _ _ _ _ _ _ _ _ _ _ _ _ _ _ _ _ _ _ _ _ _ _ _ _ _ _ _ _ _ _ _ _ _ _ _ _ _ _ _ _ _ _ _ _ _ _ _ _ _ _ _ _ _ _ _ _ _ _ _ _ _ _ _ _ _ _ _ _ _ _ _ _ _ _ _ _ _ _ _ _ _ _ _ _ _ _ _ _ _ _ _ _ _ _ _ _ _ _ _ _ _ _ _ _ _ _ _ _ _ _ _ _ _ _ _ _ _ _ _ _ _ _ _ _ _ _ _ _ _ _ _ _ _ _ _ _ _ _ _ _ _ _ _ _ _ _ _ _ _ _ _ _ _ _ _ _ _ _ _ _ _ _ _ _ _ _ _ _ _ _ _ _ _ _ _ _ _ _ _ _ _ _ _ _ _ _ _ _ _ _ _ _ _ _ _ _ _ _ _ _ _ _ _ _ _ _ _ _ _ _ _ _ _ _ _ _ _ _ _ _ _ _ _ _ _ _ _ _ _ _ _ _ _ _ _ _ _ _ _ _ _ _ _ _ _ _ _ _ _ _ _ _ _ _ _ _ _ _ _ _ _ _ _ _ _ _ _ _ _ _ _ _ _ _ _ _ _ _ _ _ _ _ _ _ _ _ _ _ _ _ _ _ _ _ _ _ _ _ _ _ _ _ _ _ _ _ _ _ _ _ _ _ _ _ _ _ _ _ _ _ _ _ _ _ _ _ _ _ _ _ _ _ _ _ _ _ _ _ _ _ _ _ _ _ _ _ _ _ _ _ _ _ _ _ _ _ _ _ _ _ _ _ _ _ _ _ _ _ _ _ _ _ _ _ _ _ _ _ _ _ _ _ _ _ _ _ _ _ _ _ _ (h6.out x2 hx2) hh20 (h24.out x2 hx2) (hTw.out x2 hx2) (hS24.out x2 hx2) hhC.1 hhC.2 hha.1 hha.2 (hD5.out x2 hx2) hP7 (fun _ _ _ _ _ _ _ _ _ _ _ _ _ _ _ _ _ _ _ _ _ _ _ _ _ _ _ _ _ _ _ _ _ _ _ _ _ _ _ _ _ _ _ _ _ _ _ _ _ _ _ _ _ _ _ _ _ _ _ _ _ _ _ _ _ _ _ _ _ _ _ _ _ _ _ _ _ _ _ _ _ _ _ _ _ _ _ _ _ _ _ _ _ _ _ _ _ _ _ _ _ _ _ _ _ _ _ _ _ _ w' hb => ?_)
  go_wp2_with fail
  go_ret
  exact ⟨rfl, hwL.out.2.trans ((hx2.trans (hb.mono hx2.size)).mono hwL.out.1)⟩
end Go.Proofs.Ytbfephekkfieaaa
