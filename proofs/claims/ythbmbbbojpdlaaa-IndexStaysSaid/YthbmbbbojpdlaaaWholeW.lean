/-
  The walk of whole: the chunks of all packs, put together, are all chunks.
-/
import Derived.Test.YthbmbbbojpdlaaaRowW
namespace Go.Proofs.Ythbmbbbojpdlaaa
open Go.RowKit
attribute [local go_sem ↓] Go.wp_at_zero Go.wp_at_succ

set_option maxHeartbeats 16000000 in
set_option maxRecDepth 100000 in
theorem law17_whole (v : Rws) (s : St) (w : World) (h : StAt w w.heap.size v s) (hm : mayIdx s.cs s.ps = true) :
    Calls Try.prog 48 #[v.val s] w fun e w' => e = .returned (.bool true) ∧ Below w.heap.size w w' := by
  have hO := fun pk W hs => index_Of v s pk W hs
  have hF := fun c W hs => index_Find v s c W hs
  have hP := fun W hs => index_Packs v s W hs
  have hst := Lib.hid h
  obtain ⟨k, nn, next, sn, cs, ps⟩ := s
  obtain ⟨V1, v1, q1', V2, v2, q2, V3, v3, q3⟩ := v
  dsimp only at hm
  have hpk : packsRes ⟨k, nn, next, sn, cs, ps⟩ = (setS (ps.map Place.pack), 0) := by simp [packsRes, hm]
  rw [hpk] at hP
  unfold Rws.val stv at hO hF hP
  unfold Rws.val stv
  dsimp only [Place.agg] at hO hF hP ⊢
  have bs := Lib.hid (BoxAt.new w k nn next (.slice V1 v1 q1') (.slice V2 v2 q2) (.slice V3 v3 q3))
  have fw : Below w.heap.size w (w.alloc (.cells #[.int .i64 k, .int .i64 nn, .int .i64 next, .slice V1 v1 q1', .slice V2 v2 q2, .slice V3 v3 q3] 28)) := (Below.refl _ _).alloc (Nat.le_refl _) _
  have sst := Lib.hid (hst.out.to fw)
  have hn2 : Hid (cs.length = v2) := h.cs.1
  have hcp : Hid (cs.length = ps.length ∧ cs.length ≤ 400) := mayIdx_len hm
  replace hO := Lib.hid hO
  replace hF := Lib.hid hF
  replace hP := Lib.hid hP
  replace hm := Lib.hid hm
  clear h hst hpk
  go_enter Try.func48, Try.ntmps48
  go_upto_region 1 with fail
  generalize w.alloc (.cells #[.int .i64 k, .int .i64 nn, .int .i64 next, .slice V1 v1 q1', .slice V2 v2 q2, .slice V3 v3 q3] 28) = w3 at bs fw sst ⊢
  obtain ⟨x0, x1, x2, x3, x4, x5⟩ := bs.out.cells
  go_wp2_with fail
  refine (hP.out w3 sst.out).mono ?_
  rintro e w4 ⟨u, rfl, ou, hb4⟩
  obtain ⟨PL, hPL⟩ : ∃ x, x = setS (ps.map Place.pack) := ⟨_, rfl⟩
  rw [← hPL] at ou
  obtain ⟨m, hml⟩ : ∃ x, x = PL.length := ⟨_, rfl⟩
  obtain ⟨A5, c5, rfl⟩ : ∃ A c, u = .slice A m c := by obtain ⟨A, c, e⟩ := ou.form; exact ⟨A, c, by rw [e, hml]⟩
  have rK := Lib.hid (ou.row strCell_len)
  replace bs := Lib.hid (bs.out.below hb4)
  replace sst := Lib.hid (sst.out.to hb4)
  replace fw := fw.trans (hb4.mono fw.size)
  have hrise : Hid (RiseS PL) := hPL ▸ setS_rise _
  have hmem : Hid (∀ z, z ∈ PL ↔ z ∈ ps.map Place.pack) := hPL ▸ fun z => setS_mem _ z
  have hmx : m ≤ 9223372036854775807 := rK.out.2.1
  replace hPL := Lib.hid hPL
  replace hml := Lib.hid hml
  clear x0 x1 x2 x3 x4 x5 ou
  go_wp2_with fail
  go_loopw [5, 6] (fun mn i wr => ∃ (q : Nat) (mm : Nat), q ≤ m ∧ i = .int .i64 q ∧ mn = .int .i64 mm ∧ mm ≤ 400 ∧ Hid (mm = ofPacks ps (PL.take q)) ∧ Below w4.heap.size w4 wr) (fun _ i _ => m - (intOf i).toNat)
  case atStart => exact ⟨0, 0, Nat.zero_le _, rfl, rfl, by omega, by unfold Hid; rw [List.take_zero, ofPacks_none], (by repeat (first | exact Below.refl _ _ | assumption | refine Below.drew ?_ | refine below_drewN ?_ _ | refine Below.alloc ?_ (by first | omega | (simp; try omega)) _ | refine Below.setCell ?_ (by first | omega | (simp; try omega)) _ | (refine Below.trans ?_ (Below.mono (by assumption) (by first | omega | (simp; try omega))))))⟩
  case round =>
    obtain ⟨q, mm, hq, rfl, rfl, hm4, hmm, hbr⟩ := hrel
    obtain ⟨wq, rfl⟩ : ∃ x : World, x = wr := ⟨_, rfl⟩
    replace bs := Lib.hid (bs.out.below hbr)
    replace sst := Lib.hid (sst.out.to hbr)
    replace rK := Lib.hid (rK.out.to hbr)
    replace fw := fw.trans (hbr.mono fw.size)
    by_cases hlt : q < m ∧ q < 60
    · obtain ⟨hlt, h60⟩ := hlt
      have hqi : (q : Int) < (m : Int) := by omega
      have h6i : (q : Int) < 60 := by omega
      obtain ⟨b5, o5, pk, rfl, hb5, hxk, y0⟩ := rK.out.str hlt
      have hin : pk ∈ ps.map Place.pack := (hmem.out pk).1 (List.mem_of_getElem? hxk)
      have hnext : Hid (ofPacks ps (PL.take (q + 1)) = ofPacks ps (PL.take q) + (ps.filter fun p => decide (p.pack = pk)).length) := by
        unfold Hid
        rw [List.take_add_one, hxk]
        exact ofPacks_add (rise_fresh hrise.out hxk) ps
      replace hxk := Lib.hid hxk
      obtain ⟨wd, hwd⟩ : ∃ x : World, x = wq := ⟨_, rfl⟩
      rw [← hwd] at bs sst rK fw hbr y0 hb5 ⊢
      clear hwd
      obtain ⟨x0, x1, x2, x3, x4, x5⟩ := bs.out.cells
      have lx := bs.out.lt
      go_upto_region 8 with fail
      --R8
      refine region_krip (fun W : World => Below wd.heap.size wd W) (by kernel_rfl) ((Below.refl _ _).drew) ?_
      (refine kF.takeL (i := 0) (v := ?_) rfl (by kernel_rfl) (fun _ _ _ h => h) (Or.inl ⟨by rfl, ?_⟩) ?_
       rotate_left
       · (intro wS hSw; (try dsimp only at hSw); have hcS := fun b o (h : b < wd.heap.size) => hSw.cell (p := ⟨b, o, none⟩) h; go_simp; (try with_reducible rfl))
       try simp only [Act.put, List.setIfInBounds_toArray, List.set_cons_zero, List.set_cons_succ])
      (refine kF.takeL (i := 1) (v := ?_) rfl (by kernel_rfl) (fun _ _ _ h => h) (Or.inl ⟨by rfl, ?_⟩) ?_
       rotate_left
       · (intro wS hSw; (try dsimp only at hSw); have hcS := fun b o (h : b < wd.heap.size) => hSw.cell (p := ⟨b, o, none⟩) h; go_simp; (try with_reducible rfl))
       try simp only [Act.put, List.setIfInBounds_toArray, List.set_cons_zero, List.set_cons_succ])
      (refine kF.takeL (i := 2) (v := ?_) rfl (by kernel_rfl) (fun _ _ _ h => h) (Or.inl ⟨by rfl, ?_⟩) ?_
       rotate_left
       · (intro wS hSw; (try dsimp only at hSw); have hcS := fun b o (h : b < wd.heap.size) => hSw.cell (p := ⟨b, o, none⟩) h; go_simp; (try with_reducible rfl))
       try simp only [Act.put, List.setIfInBounds_toArray, List.set_cons_zero, List.set_cons_succ])
      (refine kF.takeL (i := 3) (v := ?_) rfl (by kernel_rfl) (fun _ _ _ h => h) (Or.inl ⟨by rfl, ?_⟩) ?_
       rotate_left
       · (intro wS hSw; (try dsimp only at hSw); have hcS := fun b o (h : b < wd.heap.size) => hSw.cell (p := ⟨b, o, none⟩) h; go_simp; (try with_reducible rfl))
       try simp only [Act.put, List.setIfInBounds_toArray, List.set_cons_zero, List.set_cons_succ])
      (refine kF.takeL (i := 4) (v := ?_) rfl (by kernel_rfl) (fun _ _ _ h => h) (Or.inl ⟨by rfl, ?_⟩) ?_
       rotate_left
       · (intro wS hSw; (try dsimp only at hSw); have hcS := fun b o (h : b < wd.heap.size) => hSw.cell (p := ⟨b, o, none⟩) h; go_simp; (try with_reducible rfl))
       try simp only [Act.put, List.setIfInBounds_toArray, List.set_cons_zero, List.set_cons_succ])
      (refine kF.lastL (j := 5) rfl (by kernel_rfl) (fun _ _ _ _ _ h => h) (fun _ _ h1 h2 => below_S (Nat.le_refl _) h1 h2) (fun hSk K hK => ?_)
       (go_simp; refine (hO.out pk _ (sst.out.to hSk)).mono ?_; rintro e w5 ⟨u1, u2, D, P, z, rfl, hres, ow1, ow2, hb5w⟩; obtain ⟨L, hL, rfl, rfl, hne, rfl⟩ := ofRes_in hm.out hres hin; obtain ⟨A8, q8, rfl⟩ : ∃ A c, u1 = .slice A L.length c := (by obtain ⟨A, c, e⟩ := ow1.form; exact ⟨A, c, by rw [e, List.length_map]⟩); obtain ⟨A9, q9, rfl⟩ : ∃ A c, u2 = .slice A L.length c := (by obtain ⟨A, c, e⟩ := ow2.form; exact ⟨A, c, by rw [e, List.length_map]⟩); have hSw5 := hSk.trans (hb5w.mono hSk.size))
       refine hK.out _ _ (below_S (Nat.le_refl _) hSk hb5w) ?_
       clear hK K
       try simp only [Act.put, List.setIfInBounds_toArray, List.set_cons_zero, List.set_cons_succ])
      (refine kF.takeL (i := 6) (v := ?_) rfl (by kernel_rfl) (fun _ _ _ h => h) (Or.inl ⟨by rfl, ?_⟩) ?_
       rotate_left
       · (intro wS hSw; (try dsimp only at hSw); have hcS := fun b o (h : b < wd.heap.size) => hSw.cell (p := ⟨b, o, none⟩) h; go_simp; (try with_reducible rfl))
       try simp only [Act.put, List.setIfInBounds_toArray, List.set_cons_zero, List.set_cons_succ])
      (refine kF.takeL (i := 7) (v := ?_) rfl (by kernel_rfl) (fun _ _ _ h => h) (Or.inl ⟨by rfl, ?_⟩) ?_
       rotate_left
       · (intro wS hSw; (try dsimp only at hSw); have hcS := fun b o (h : b < wd.heap.size) => hSw.cell (p := ⟨b, o, none⟩) h; go_simp; (try with_reducible rfl))
       try simp only [Act.put, List.setIfInBounds_toArray, List.set_cons_zero, List.set_cons_succ])
      (refine kF.takeL (i := 8) (v := ?_) rfl (by kernel_rfl) (fun _ _ _ h => h) (Or.inl ⟨by rfl, ?_⟩) ?_
       rotate_left
       · (intro wS hSw; (try dsimp only at hSw); have hcS := fun b o (h : b < wd.heap.size) => hSw.cell (p := ⟨b, o, none⟩) h; go_simp; (try with_reducible rfl))
       try simp only [Act.put, List.setIfInBounds_toArray, List.set_cons_zero, List.set_cons_succ])
      (refine kF.takeL (i := 9) (v := ?_) rfl (by kernel_rfl) (fun _ _ _ h => h) (Or.inl ⟨by rfl, ?_⟩) ?_
       rotate_left
       · (intro wS hSw; (try dsimp only at hSw); have hcS := fun b o (h : b < wd.heap.size) => hSw.cell (p := ⟨b, o, none⟩) h; go_simp; (try with_reducible rfl))
       try simp only [Act.put, List.setIfInBounds_toArray, List.set_cons_zero, List.set_cons_succ])
      (refine kF.takeL (i := 10) (v := ?_) rfl (by kernel_rfl) (fun _ _ _ h => h) (Or.inl ⟨by rfl, ?_⟩) ?_
       rotate_left
       · (intro wS hSw; (try dsimp only at hSw); have hcS := fun b o (h : b < wd.heap.size) => hSw.cell (p := ⟨b, o, none⟩) h; go_simp; (try with_reducible rfl))
       try simp only [Act.put, List.setIfInBounds_toArray, List.set_cons_zero, List.set_cons_succ])
      (refine kF.takeL (i := 11) (v := ?_) rfl (by kernel_rfl) (fun _ _ _ h => h) (Or.inl ⟨by rfl, ?_⟩) ?_
       rotate_left
       · (intro wS hSw; (try dsimp only at hSw); have hcS := fun b o (h : b < wd.heap.size) => hSw.cell (p := ⟨b, o, none⟩) h; go_simp; (try with_reducible rfl))
       try simp only [Act.put, List.setIfInBounds_toArray, List.set_cons_zero, List.set_cons_succ])
      (refine kF.takeL (i := 12) (v := ?_) rfl (by kernel_rfl) (fun _ _ _ h => h) (Or.inl ⟨by rfl, ?_⟩) ?_
       rotate_left
       · (intro wS hSw; (try dsimp only at hSw); have hcS := fun b o (h : b < wd.heap.size) => hSw.cell (p := ⟨b, o, none⟩) h; go_simp; (try with_reducible rfl))
       try simp only [Act.put, List.setIfInBounds_toArray, List.set_cons_zero, List.set_cons_succ])
      refine kF.done (by kernel_rfl) ?_
      --endR8
      replace bs := Lib.hid (bs.out.below hSw5)
      replace sst := Lib.hid (sst.out.to hSw5)
      replace rK := Lib.hid (rK.out.to hSw5)
      replace fw := fw.trans (hSw5.mono fw.size)
      have hbr5 := hbr.trans (hSw5.mono hbr.size)
      have rD := Lib.hid (ow1.row strCell_len)
      have rP := Lib.hid (ow2.row Place.cells_len)
      have hL0 : 0 < L.length := List.length_pos_iff.2 hne
      have hLl := OfL.len (s := ⟨k, nn, next, sn, cs, ps⟩) hm.out hL
      dsimp only at hLl
      have hmm' : Hid (mm + L.length = ofPacks ps (PL.take (q + 1))) := by unfold Hid; rw [hnext.out, hmm.out, hLl]
      have hmm4 : mm + L.length ≤ 400 := by have h1 := hmm'.out; have h2 := ofPacks_le ps (PL.take (q + 1)); have h3 := hcp.out; omega
      have hLb : L.length ≤ 9223372036854775807 := by omega
      have g0 : ((L.length : Int) == 0) = false := by simp; omega
      have g1 : ((L.length : Int) != (L.length : Int)) = false := by simp
      replace hL := Lib.hid hL
      replace hne := Lib.hid hne
      replace hres := Lib.hid hres
      clear x0 x1 x2 x3 x4 x5 lx y0 hSw5 hSk hb5w ow1 ow2 hLl
      obtain ⟨ln, hln⟩ : ∃ x, x = L.length := ⟨_, rfl⟩
      rw [← hln] at hL0 hLb g0 g1 rD rP hmm' hmm4 ⊢
      replace hln := Lib.hid hln
      go_wp2_with fail
      go_loopw [10] (fun i wr => ∃ j : Nat, j ≤ ln ∧ i = .int .i64 j ∧ Below w5.heap.size w5 wr) (fun i _ => ln - (intOf i).toNat)
      case atStart => exact ⟨0, Nat.zero_le _, rfl, Below.refl _ _⟩
      case round =>
        obtain ⟨j, hj, rfl, hbj⟩ := hrel
        obtain ⟨wj, hwj0⟩ : ∃ x : World, x = wr := ⟨_, rfl⟩
        rw [← hwj0] at hbj ⊢
        clear hwj0
        replace bs := Lib.hid (bs.out.below hbj)
        replace sst := Lib.hid (sst.out.to hbj)
        replace rK := Lib.hid (rK.out.to hbj)
        replace rD := Lib.hid (rD.out.to hbj)
        replace rP := Lib.hid (rP.out.to hbj)
        replace fw := fw.trans (hbj.mono fw.size)
        by_cases hjl : j < ln
        · have hji : (j : Int) < (ln : Int) := by omega
          obtain ⟨⟨xc, xp⟩, hx⟩ := getElem_some (l := L) (i := j) (by have := hln.out; omega)
          obtain ⟨hxc, hxp⟩ := stands_map hx
          obtain ⟨hfnd, hpkx⟩ := OfL.find (s := ⟨k, nn, next, sn, cs, ps⟩) hm.out hL.out (List.mem_of_getElem? hx)
          dsimp only at hfnd hpkx hxc hxp
          obtain ⟨b8, o8, hA8, hb8⟩ := rD.out.addrOf hjl
          obtain ⟨b9, o9, hA9, hb9⟩ := rP.out.addrOf hjl
          subst hA8
          subst hA9
          have yD := rD.out.strAt hxc
          obtain ⟨x0, x1, x2, x3, x4, x5⟩ := bs.out.cells
          have lx := bs.out.lt
          replace hx := Lib.hid hx
          replace hxc := Lib.hid hxc
          replace hxp := Lib.hid hxp
          replace hpkx := Lib.hid hpkx
          go_upto_region 15 with fail
          --R15
          refine region_krip (fun W : World => Below wj.heap.size wj W) (by kernel_rfl) ((Below.refl _ _).drew) ?_
          (refine kF.takeL (i := 0) (v := ?_) rfl (by kernel_rfl) (fun _ _ _ h => h) (Or.inl ⟨by rfl, ?_⟩) ?_
           rotate_left
           · (intro wS hSw; (try dsimp only at hSw); have hcS := fun b o (h : b < wj.heap.size) => hSw.cell (p := ⟨b, o, none⟩) h; go_simp; (try with_reducible rfl))
           try simp only [Act.put, List.setIfInBounds_toArray, List.set_cons_zero, List.set_cons_succ])
          (refine kF.takeL (i := 1) (v := ?_) rfl (by kernel_rfl) (fun _ _ _ h => h) (Or.inl ⟨by rfl, ?_⟩) ?_
           rotate_left
           · (intro wS hSw; (try dsimp only at hSw); have hcS := fun b o (h : b < wj.heap.size) => hSw.cell (p := ⟨b, o, none⟩) h; go_simp; (try with_reducible rfl))
           try simp only [Act.put, List.setIfInBounds_toArray, List.set_cons_zero, List.set_cons_succ])
          (refine kF.takeL (i := 2) (v := ?_) rfl (by kernel_rfl) (fun _ _ _ h => h) (Or.inl ⟨by rfl, ?_⟩) ?_
           rotate_left
           · (intro wS hSw; (try dsimp only at hSw); have hcS := fun b o (h : b < wj.heap.size) => hSw.cell (p := ⟨b, o, none⟩) h; go_simp; (try with_reducible rfl))
           try simp only [Act.put, List.setIfInBounds_toArray, List.set_cons_zero, List.set_cons_succ])
          (refine kF.takeL (i := 3) (v := ?_) rfl (by kernel_rfl) (fun _ _ _ h => h) (Or.inl ⟨by rfl, ?_⟩) ?_
           rotate_left
           · (intro wS hSw; (try dsimp only at hSw); have hcS := fun b o (h : b < wj.heap.size) => hSw.cell (p := ⟨b, o, none⟩) h; go_simp; (try with_reducible rfl))
           try simp only [Act.put, List.setIfInBounds_toArray, List.set_cons_zero, List.set_cons_succ])
          (refine kF.takeL (i := 4) (v := ?_) rfl (by kernel_rfl) (fun _ _ _ h => h) (Or.inl ⟨by rfl, ?_⟩) ?_
           rotate_left
           · (intro wS hSw; (try dsimp only at hSw); have hcS := fun b o (h : b < wj.heap.size) => hSw.cell (p := ⟨b, o, none⟩) h; go_simp; (try with_reducible rfl))
           try simp only [Act.put, List.setIfInBounds_toArray, List.set_cons_zero, List.set_cons_succ])
          (refine kF.newL (i := 9) (fun b => .pointer (some ⟨b, 0, none⟩)) (.cells #[.string ⟨#[]⟩, .int .i64 0, .int .i64 0] 34) rfl (by kernel_rfl) (by rfl) ?_ ?_
           · (intro wS; go_simp; (try with_reducible rfl)))
          (refine kF.onlyL (j := 5) rfl (by kernel_rfl) (fun _ _ _ _ _ h => h) (fun _ _ h1 h2 => below_S (Nat.le_refl _) h1 h2) (fun k5 hbk5 hek5 hSk5 K hK => ?_)
           (go_simp; refine (hF.out xc k5 (sst.out.to hSk5)).mono ?_; rw [hfnd]; rintro e w6 ⟨rfl, hb6⟩)
           refine hK.out _ _ (below_S (Nat.le_refl _) hSk5 hb6) (.inr (.inl hb6)) ?_
           clear hK K hek5
           try simp only [Act.put, List.setIfInBounds_toArray, List.set_cons_zero, List.set_cons_succ])
          (refine kF.takeL (i := 6) (v := ?_) rfl (by kernel_rfl) (fun _ _ _ h => h) (Or.inl ⟨by rfl, ?_⟩) ?_
           rotate_left
           · (intro wS hSw; (try dsimp only at hSw); have hcS := fun b o (h : b < wj.heap.size) => hSw.cell (p := ⟨b, o, none⟩) h; go_simp; (try with_reducible rfl))
           try simp only [Act.put, List.setIfInBounds_toArray, List.set_cons_zero, List.set_cons_succ])
          (refine kF.takeL (i := 7) (v := ?_) rfl (by kernel_rfl) (fun _ _ _ h => h) (Or.inl ⟨by rfl, ?_⟩) ?_
           rotate_left
           · (intro wS hSw; (try dsimp only at hSw); have hcS := fun b o (h : b < wj.heap.size) => hSw.cell (p := ⟨b, o, none⟩) h; go_simp; (try with_reducible rfl))
           try simp only [Act.put, List.setIfInBounds_toArray, List.set_cons_zero, List.set_cons_succ])
          (refine kF.takeL (i := 8) (v := ?_) rfl (by kernel_rfl) (fun _ _ _ h => h) (Or.inl ⟨by rfl, ?_⟩) ?_
           rotate_left
           · (intro wS hSw; (try dsimp only at hSw); have hcS := fun b o (h : b < wj.heap.size) => hSw.cell (p := ⟨b, o, none⟩) h; go_simp; (try with_reducible rfl))
           try simp only [Act.put, List.setIfInBounds_toArray, List.set_cons_zero, List.set_cons_succ])
          (refine kF.settleL (by kernel_rfl) (fun _ _ h1 h2 => below_S (Nat.le_refl _) h1 h2) (fun u9 hbu9 hSu9 v hv => ?_)
           obtain ⟨bu9, hBu9, rfl, hxu9⟩ := hv
           try simp only [Act.put, List.setIfInBounds_toArray, List.set_cons_zero, List.set_cons_succ])
          obtain ⟨c0, c1, c2⟩ := PBox.cells (p := Place.zero) hxu9
          have c3 := PBox.frozen (p := Place.zero) hxu9 0
          have c4 := PBox.frozen (p := Place.zero) hxu9 1
          have c5 := PBox.frozen (p := Place.zero) hxu9 2
          (refine kF.lastL (j := 10) rfl (by kernel_rfl) (fun _ _ _ _ _ h => h) (fun _ _ h1 h2 => below_S (Nat.le_refl _) h1 h2) (fun hSk K hK => ?_)
           go_simp
           refine hK.out _ _ (((hSk.setCell (p := ⟨bu9, 0, none⟩) hBu9 _).setCell (p := ⟨bu9, 1, none⟩) hBu9 _).setCell (p := ⟨bu9, 2, none⟩) hBu9 _) ?_
           clear hK K
           try simp only [Act.put, List.setIfInBounds_toArray, List.set_cons_zero, List.set_cons_succ])
          (refine kF.takeL (i := 11) (v := ?_) rfl (by kernel_rfl) (fun _ _ _ h => h) (Or.inl ⟨by rfl, ?_⟩) ?_
           rotate_left
           · (intro wS hSw; (try dsimp only at hSw); have hcS := fun b o (h : b < wj.heap.size) => hSw.cell (p := ⟨b, o, none⟩) h; go_simp; (try with_reducible rfl))
           try simp only [Act.put, List.setIfInBounds_toArray, List.set_cons_zero, List.set_cons_succ])
          refine kF.done (by kernel_rfl) ?_
          have hSy : Below wj.heap.size wj (((u9.setCell ⟨bu9, 0, none⟩ (.string xp.pack)).setCell ⟨bu9, 1, none⟩ (.int .i64 xp.at_)).setCell ⟨bu9, 2, none⟩ (.int .i64 xp.len)) := ((hSu9.setCell (p := ⟨bu9, 0, none⟩) hBu9 _).setCell (p := ⟨bu9, 1, none⟩) hBu9 _).setCell (p := ⟨bu9, 2, none⟩) hBu9 _
          have pbx : Hid (PBox (((u9.setCell ⟨bu9, 0, none⟩ (.string xp.pack)).setCell ⟨bu9, 1, none⟩ (.int .i64 xp.at_)).setCell ⟨bu9, 2, none⟩ (.int .i64 xp.len)) bu9 xp) := PBox.set3 (p := Place.zero) hxu9 xp
          generalize ((u9.setCell ⟨bu9, 0, none⟩ (.string xp.pack)).setCell ⟨bu9, 1, none⟩ (.int .i64 xp.at_)).setCell ⟨bu9, 2, none⟩ (.int .i64 xp.len) = wy at hSy pbx ⊢
          clear c0 c1 c2 c3 c4 c5 hxu9 hSu9 hbu9 hBu9
          --endR15
          replace bs := Lib.hid (bs.out.below hSy)
          replace sst := Lib.hid (sst.out.to hSy)
          replace rK := Lib.hid (rK.out.to hSy)
          replace rD := Lib.hid (rD.out.to hSy)
          replace rP := Lib.hid (rP.out.to hSy)
          replace fw := fw.trans (hSy.mono fw.size)
          have hby := hbj.trans (hSy.mono hbj.size)
          clear x0 x1 x2 x3 x4 x5 lx yD hSk hb6
          obtain ⟨z0, z1, z2⟩ := pbx.out.cells
          have lz := pbx.out.lt
          obtain ⟨p0, p1, p2⟩ := rP.out.placeAt hxp.out
          have y0 := rK.out.strAt hxk.out
          have hb9y : b9 < wy.heap.size := by obtain ⟨b', o', e, hb', _⟩ := rP.out.2.2 (by omega); simp only [Option.some.injEq, Addr.mk.injEq] at e; omega
          have hb5y : b5 < wy.heap.size := by obtain ⟨b', o', e, hb', _⟩ := rK.out.2.2 (by omega); simp only [Option.some.injEq, Addr.mk.injEq] at e; omega
          have ne1 := neqSelf xp
          have ne2 := str_eq hpkx.out
          replace hfnd := Lib.hid hfnd
          go_wp2_with fail
          go_cut [106] (fun v106 wc => v106 = .bool false ∧ Below wy.heap.size wy wc)
          case first =>
            by_cases hj0 : j = 0
            · have gj : decide ((0 : Int) < (j : Int)) = false := by simp; omega
              have gj' : decide (0 < j) = false := by simp; omega
              replace hj0 := Lib.hid hj0
              --R16a
              refine region_krip (fun W : World => Below wy.heap.size wy W) (by kernel_rfl) ((Below.refl _ _).drew) ?_
              (refine kF.takeL (i := 0) (v := ?_) rfl (by kernel_rfl) (fun _ _ _ h => h) (Or.inl ⟨by rfl, ?_⟩) ?_
               rotate_left
               · (intro wS hSw; (try dsimp only at hSw); have hcS := fun b o (h : b < wy.heap.size) => hSw.cell (p := ⟨b, o, none⟩) h; go_simp; (try with_reducible rfl))
               try simp only [Act.put, List.setIfInBounds_toArray, List.set_cons_zero, List.set_cons_succ])
              (refine kF.takeL (i := 1) (v := ?_) rfl (by kernel_rfl) (fun _ _ _ h => h) (Or.inl ⟨by rfl, ?_⟩) ?_
               rotate_left
               · (intro wS hSw; (try dsimp only at hSw); have hcS := fun b o (h : b < wy.heap.size) => hSw.cell (p := ⟨b, o, none⟩) h; go_simp; (try with_reducible rfl))
               try simp only [Act.put, List.setIfInBounds_toArray, List.set_cons_zero, List.set_cons_succ])
              (refine kF.takeL (i := 2) (v := ?_) rfl (by kernel_rfl) (fun _ _ _ h => h) (Or.inl ⟨by rfl, ?_⟩) ?_
               rotate_left
               · (intro wS hSw; (try dsimp only at hSw); have hcS := fun b o (h : b < wy.heap.size) => hSw.cell (p := ⟨b, o, none⟩) h; go_simp; (try with_reducible rfl))
               try simp only [Act.put, List.setIfInBounds_toArray, List.set_cons_zero, List.set_cons_succ])
              (refine kF.takeL (i := 3) (v := ?_) rfl (by kernel_rfl) (fun _ _ _ h => h) (Or.inl ⟨by rfl, ?_⟩) ?_
               rotate_left
               · (intro wS hSw; (try dsimp only at hSw); have hcS := fun b o (h : b < wy.heap.size) => hSw.cell (p := ⟨b, o, none⟩) h; go_simp; (try with_reducible rfl))
               try simp only [Act.put, List.setIfInBounds_toArray, List.set_cons_zero, List.set_cons_succ])
              (refine kF.takeL (i := 4) (v := ?_) rfl (by kernel_rfl) (fun _ _ _ h => h) (Or.inl ⟨by rfl, ?_⟩) ?_
               rotate_left
               · (intro wS hSw; (try dsimp only at hSw); have hcS := fun b o (h : b < wy.heap.size) => hSw.cell (p := ⟨b, o, none⟩) h; go_simp; (try with_reducible rfl))
               try simp only [Act.put, List.setIfInBounds_toArray, List.set_cons_zero, List.set_cons_succ])
              (refine kF.takeL (i := 5) (v := ?_) rfl (by kernel_rfl) (fun _ _ _ h => h) (Or.inl ⟨by rfl, ?_⟩) ?_
               rotate_left
               · (intro wS hSw; (try dsimp only at hSw); have hcS := fun b o (h : b < wy.heap.size) => hSw.cell (p := ⟨b, o, none⟩) h; go_simp; (try with_reducible rfl))
               try simp only [Act.put, List.setIfInBounds_toArray, List.set_cons_zero, List.set_cons_succ])
              (refine kF.takeL (i := 6) (v := ?_) rfl (by kernel_rfl) (fun _ _ _ h => h) (Or.inl ⟨by rfl, ?_⟩) ?_
               rotate_left
               · (intro wS hSw; (try dsimp only at hSw); have hcS := fun b o (h : b < wy.heap.size) => hSw.cell (p := ⟨b, o, none⟩) h; go_simp; (try with_reducible rfl))
               try simp only [Act.put, List.setIfInBounds_toArray, List.set_cons_zero, List.set_cons_succ])
              (refine kF.takeL (i := 7) (v := ?_) rfl (by kernel_rfl) (fun _ _ _ h => h) (Or.inl ⟨by rfl, ?_⟩) ?_
               rotate_left
               · (intro wS hSw; (try dsimp only at hSw); have hcS := fun b o (h : b < wy.heap.size) => hSw.cell (p := ⟨b, o, none⟩) h; go_simp; (try with_reducible rfl))
               try simp only [Act.put, List.setIfInBounds_toArray, List.set_cons_zero, List.set_cons_succ])
              (refine kF.takeL (i := 8) (v := ?_) rfl (by kernel_rfl) (fun _ _ _ h => h) (Or.inl ⟨by rfl, ?_⟩) ?_
               rotate_left
               · (intro wS hSw; (try dsimp only at hSw); have hcS := fun b o (h : b < wy.heap.size) => hSw.cell (p := ⟨b, o, none⟩) h; go_simp; (try with_reducible rfl))
               try simp only [Act.put, List.setIfInBounds_toArray, List.set_cons_zero, List.set_cons_succ])
              (refine kF.takeL (i := 9) (v := ?_) rfl (by kernel_rfl) (fun _ _ _ h => h) (Or.inl ⟨by rfl, ?_⟩) ?_
               rotate_left
               · (intro wS hSw; (try dsimp only at hSw); have hcS := fun b o (h : b < wy.heap.size) => hSw.cell (p := ⟨b, o, none⟩) h; go_simp; (try with_reducible rfl))
               try simp only [Act.put, List.setIfInBounds_toArray, List.set_cons_zero, List.set_cons_succ])
              (refine kF.takeL (i := 10) (v := ?_) rfl (by kernel_rfl) (fun _ _ _ h => h) (Or.inl ⟨by rfl, ?_⟩) ?_
               rotate_left
               · (intro wS hSw; (try dsimp only at hSw); have hcS := fun b o (h : b < wy.heap.size) => hSw.cell (p := ⟨b, o, none⟩) h; go_simp; (try with_reducible rfl))
               try simp only [Act.put, List.setIfInBounds_toArray, List.set_cons_zero, List.set_cons_succ])
              (refine kF.takeL (i := 11) (v := ?_) rfl (by kernel_rfl) (fun _ _ _ h => h) (Or.inl ⟨by rfl, ?_⟩) ?_
               rotate_left
               · (intro wS hSw; (try dsimp only at hSw); have hcS := fun b o (h : b < wy.heap.size) => hSw.cell (p := ⟨b, o, none⟩) h; go_simp; (try with_reducible rfl))
               try simp only [Act.put, List.setIfInBounds_toArray, List.set_cons_zero, List.set_cons_succ])
              (refine kF.takeL (i := 12) (v := ?_) rfl (by kernel_rfl) (fun _ _ _ h => h) (Or.inl ⟨by rfl, ?_⟩) ?_
               rotate_left
               · (intro wS hSw; (try dsimp only at hSw); have hcS := fun b o (h : b < wy.heap.size) => hSw.cell (p := ⟨b, o, none⟩) h; go_simp; (try with_reducible rfl))
               try simp only [Act.put, List.setIfInBounds_toArray, List.set_cons_zero, List.set_cons_succ])
              (refine kF.takeL (i := 13) (v := ?_) rfl (by kernel_rfl) (fun _ _ _ h => h) (Or.inl ⟨by rfl, ?_⟩) ?_
               rotate_left
               · (intro wS hSw; (try dsimp only at hSw); have hcS := fun b o (h : b < wy.heap.size) => hSw.cell (p := ⟨b, o, none⟩) h; go_simp; (try with_reducible rfl))
               try simp only [Act.put, List.setIfInBounds_toArray, List.set_cons_zero, List.set_cons_succ])
              (refine kF.takeL (i := 14) (v := ?_) rfl (by kernel_rfl) (fun _ _ _ h => h) (Or.inl ⟨by rfl, ?_⟩) ?_
               rotate_left
               · (intro wS hSw; (try dsimp only at hSw); have hcS := fun b o (h : b < wy.heap.size) => hSw.cell (p := ⟨b, o, none⟩) h; go_simp; (try with_reducible rfl))
               try simp only [Act.put, List.setIfInBounds_toArray, List.set_cons_zero, List.set_cons_succ])
              (refine kF.takeL (i := 15) (v := ?_) rfl (by kernel_rfl) (fun _ _ _ h => h) (Or.inl ⟨by rfl, ?_⟩) ?_
               rotate_left
               · (intro wS hSw; (try dsimp only at hSw); have hcS := fun b o (h : b < wy.heap.size) => hSw.cell (p := ⟨b, o, none⟩) h; go_simp; (try with_reducible rfl))
               try simp only [Act.put, List.setIfInBounds_toArray, List.set_cons_zero, List.set_cons_succ])
              (refine kF.takeL (i := 16) (v := ?_) rfl (by kernel_rfl) (fun _ _ _ h => h) (Or.inl ⟨by rfl, ?_⟩) ?_
               rotate_left
               · (intro wS hSw; (try dsimp only at hSw); have hcS := fun b o (h : b < wy.heap.size) => hSw.cell (p := ⟨b, o, none⟩) h; go_simp; (try with_reducible rfl))
               try simp only [Act.put, List.setIfInBounds_toArray, List.set_cons_zero, List.set_cons_succ])
              (refine kF.takeL (i := 17) (v := ?_) rfl (by kernel_rfl) (fun _ _ _ h => h) (Or.inl ⟨by rfl, ?_⟩) ?_
               rotate_left
               · (intro wS hSw; (try dsimp only at hSw); have hcS := fun b o (h : b < wy.heap.size) => hSw.cell (p := ⟨b, o, none⟩) h; go_simp; (try with_reducible rfl))
               try simp only [Act.put, List.setIfInBounds_toArray, List.set_cons_zero, List.set_cons_succ])
              (refine kF.takeL (i := 18) (v := ?_) rfl (by kernel_rfl) (fun _ _ _ h => h) (Or.inl ⟨by rfl, ?_⟩) ?_
               rotate_left
               · (intro wS hSw; (try dsimp only at hSw); have hcS := fun b o (h : b < wy.heap.size) => hSw.cell (p := ⟨b, o, none⟩) h; go_simp; (try with_reducible rfl))
               try simp only [Act.put, List.setIfInBounds_toArray, List.set_cons_zero, List.set_cons_succ])
              (refine kF.takeL (i := 19) (v := ?_) rfl (by kernel_rfl) (fun _ _ _ h => h) (Or.inl ⟨by rfl, ?_⟩) ?_
               rotate_left
               · (intro wS hSw; (try dsimp only at hSw); have hcS := fun b o (h : b < wy.heap.size) => hSw.cell (p := ⟨b, o, none⟩) h; go_simp; (try with_reducible rfl))
               try simp only [Act.put, List.setIfInBounds_toArray, List.set_cons_zero, List.set_cons_succ])
              (refine kF.takeL (i := 20) (v := ?_) rfl (by kernel_rfl) (fun _ _ _ h => h) (Or.inl ⟨by rfl, ?_⟩) ?_
               rotate_left
               · (intro wS hSw; (try dsimp only at hSw); have hcS := fun b o (h : b < wy.heap.size) => hSw.cell (p := ⟨b, o, none⟩) h; go_simp; (try with_reducible rfl))
               try simp only [Act.put, List.setIfInBounds_toArray, List.set_cons_zero, List.set_cons_succ])
              (refine kF.takeL (i := 21) (v := ?_) rfl (by kernel_rfl) (fun _ _ _ h => h) (Or.inl ⟨by rfl, ?_⟩) ?_
               rotate_left
               · (intro wS hSw; (try dsimp only at hSw); have hcS := fun b o (h : b < wy.heap.size) => hSw.cell (p := ⟨b, o, none⟩) h; go_simp; (try with_reducible rfl))
               try simp only [Act.put, List.setIfInBounds_toArray, List.set_cons_zero, List.set_cons_succ])
              (refine kF.takeL (i := 22) (v := ?_) rfl (by kernel_rfl) (fun _ _ _ h => h) (Or.inl ⟨by rfl, ?_⟩) ?_
               rotate_left
               · (intro wS hSw; (try dsimp only at hSw); have hcS := fun b o (h : b < wy.heap.size) => hSw.cell (p := ⟨b, o, none⟩) h; go_simp; (try with_reducible rfl))
               try simp only [Act.put, List.setIfInBounds_toArray, List.set_cons_zero, List.set_cons_succ])
              (refine kF.takeL (i := 23) (v := undef) rfl (by kernel_rfl) (fun _ _ _ h => h) (Or.inr ⟨by rfl, rfl⟩) ?_
               try simp only [Act.put, List.setIfInBounds_toArray, List.set_cons_zero, List.set_cons_succ])
              (refine kF.takeL (i := 24) (v := undef) rfl (by kernel_rfl) (fun _ _ _ h => h) (Or.inr ⟨by rfl, rfl⟩) ?_
               try simp only [Act.put, List.setIfInBounds_toArray, List.set_cons_zero, List.set_cons_succ])
              (refine kF.takeL (i := 25) (v := undef) rfl (by kernel_rfl) (fun _ _ _ h => h) (Or.inr ⟨by rfl, rfl⟩) ?_
               try simp only [Act.put, List.setIfInBounds_toArray, List.set_cons_zero, List.set_cons_succ])
              (refine kF.takeL (i := 26) (v := undef) rfl (by kernel_rfl) (fun _ _ _ h => h) (Or.inr ⟨by rfl, rfl⟩) ?_
               try simp only [Act.put, List.setIfInBounds_toArray, List.set_cons_zero, List.set_cons_succ])
              (refine kF.takeL (i := 27) (v := undef) rfl (by kernel_rfl) (fun _ _ _ h => h) (Or.inr ⟨by rfl, rfl⟩) ?_
               try simp only [Act.put, List.setIfInBounds_toArray, List.set_cons_zero, List.set_cons_succ])
              (refine kF.takeL (i := 28) (v := undef) rfl (by kernel_rfl) (fun _ _ _ h => h) (Or.inr ⟨by rfl, rfl⟩) ?_
               try simp only [Act.put, List.setIfInBounds_toArray, List.set_cons_zero, List.set_cons_succ])
              (refine kF.takeL (i := 29) (v := undef) rfl (by kernel_rfl) (fun _ _ _ h => h) (Or.inr ⟨by rfl, rfl⟩) ?_
               try simp only [Act.put, List.setIfInBounds_toArray, List.set_cons_zero, List.set_cons_succ])
              (refine kF.takeL (i := 30) (v := undef) rfl (by kernel_rfl) (fun _ _ _ h => h) (Or.inr ⟨by rfl, rfl⟩) ?_
               try simp only [Act.put, List.setIfInBounds_toArray, List.set_cons_zero, List.set_cons_succ])
              (refine kF.takeL (i := 31) (v := undef) rfl (by kernel_rfl) (fun _ _ _ h => h) (Or.inr ⟨by rfl, rfl⟩) ?_
               try simp only [Act.put, List.setIfInBounds_toArray, List.set_cons_zero, List.set_cons_succ])
              (refine kF.takeL (i := 32) (v := ?_) rfl (by kernel_rfl) (fun _ _ _ h => h) (Or.inl ⟨by rfl, ?_⟩) ?_
               rotate_left
               · (intro wS hSw; (try dsimp only at hSw); have hcS := fun b o (h : b < wy.heap.size) => hSw.cell (p := ⟨b, o, none⟩) h; go_simp; (try with_reducible rfl))
               try simp only [Act.put, List.setIfInBounds_toArray, List.set_cons_zero, List.set_cons_succ])
              (refine kF.takeL (i := 33) (v := ?_) rfl (by kernel_rfl) (fun _ _ _ h => h) (Or.inl ⟨by rfl, ?_⟩) ?_
               rotate_left
               · (intro wS hSw; (try dsimp only at hSw); have hcS := fun b o (h : b < wy.heap.size) => hSw.cell (p := ⟨b, o, none⟩) h; go_simp; (try with_reducible rfl))
               try simp only [Act.put, List.setIfInBounds_toArray, List.set_cons_zero, List.set_cons_succ])
              refine kF.done (by kernel_rfl) ?_
              --endR16a
              go_wp2_with fail
              go_meet
              exact ⟨rfl, (by repeat (first | exact Below.refl _ _ | assumption | refine Below.drew ?_ | refine below_drewN ?_ _ | refine Below.alloc ?_ (by first | omega | (simp; try omega)) _ | refine Below.setCell ?_ (by first | omega | (simp; try omega)) _ | (refine Below.trans ?_ (Below.mono (by assumption) (by first | omega | (simp; try omega))))))⟩
            · have gj : decide ((0 : Int) < (j : Int)) = true := by simp; omega
              have gj' : decide (0 < j) = true := by simp; omega
              obtain ⟨j1, hj1⟩ : ∃ j1, j1 + 1 = j := ⟨j - 1, by omega⟩
              obtain ⟨⟨qc, pr⟩, hx1⟩ := getElem_some (l := L) (i := j1) (by have := hln.out; omega)
              have hnx := OfL.next (s := ⟨k, nn, next, sn, cs, ps⟩) hm.out hL.out hx1 (by rw [hj1]; exact hx.out)
              have hbp := OfL.bounds (s := ⟨k, nn, next, sn, cs, ps⟩) hm.out hL.out (List.mem_of_getElem? hx1)
              dsimp only at hnx hbp
              obtain ⟨r0, r1, r2⟩ := rP.out.placeAt (stands_map hx1).2
              dsimp only at r0 r1 r2
              have hwj := Lib.hid (wrap_pred hj1 (by omega))
              have hgt : decide (xp.at_ ≤ pr.at_) = false := by simp; omega
              have hj1m : (j1 : Int) < (ln : Int) := by omega
              have hj1n : j1 < ln := by omega
              replace hx1 := Lib.hid hx1
              replace hj1 := Lib.hid hj1
              replace hj0 := Lib.hid hj0
              --R16b
              refine region_krip (fun W : World => Below wy.heap.size wy W) (by kernel_rfl) ((Below.refl _ _).drew) ?_
              (refine kF.takeL (i := 0) (v := ?_) rfl (by kernel_rfl) (fun _ _ _ h => h) (Or.inl ⟨by rfl, ?_⟩) ?_
               rotate_left
               · (intro wS hSw; (try dsimp only at hSw); have hcS := fun b o (h : b < wy.heap.size) => hSw.cell (p := ⟨b, o, none⟩) h; go_simp; (try with_reducible rfl))
               try simp only [Act.put, List.setIfInBounds_toArray, List.set_cons_zero, List.set_cons_succ])
              (refine kF.takeL (i := 1) (v := ?_) rfl (by kernel_rfl) (fun _ _ _ h => h) (Or.inl ⟨by rfl, ?_⟩) ?_
               rotate_left
               · (intro wS hSw; (try dsimp only at hSw); have hcS := fun b o (h : b < wy.heap.size) => hSw.cell (p := ⟨b, o, none⟩) h; go_simp; (try with_reducible rfl))
               try simp only [Act.put, List.setIfInBounds_toArray, List.set_cons_zero, List.set_cons_succ])
              (refine kF.takeL (i := 2) (v := ?_) rfl (by kernel_rfl) (fun _ _ _ h => h) (Or.inl ⟨by rfl, ?_⟩) ?_
               rotate_left
               · (intro wS hSw; (try dsimp only at hSw); have hcS := fun b o (h : b < wy.heap.size) => hSw.cell (p := ⟨b, o, none⟩) h; go_simp; (try with_reducible rfl))
               try simp only [Act.put, List.setIfInBounds_toArray, List.set_cons_zero, List.set_cons_succ])
              (refine kF.takeL (i := 3) (v := ?_) rfl (by kernel_rfl) (fun _ _ _ h => h) (Or.inl ⟨by rfl, ?_⟩) ?_
               rotate_left
               · (intro wS hSw; (try dsimp only at hSw); have hcS := fun b o (h : b < wy.heap.size) => hSw.cell (p := ⟨b, o, none⟩) h; go_simp; (try with_reducible rfl))
               try simp only [Act.put, List.setIfInBounds_toArray, List.set_cons_zero, List.set_cons_succ])
              (refine kF.takeL (i := 4) (v := ?_) rfl (by kernel_rfl) (fun _ _ _ h => h) (Or.inl ⟨by rfl, ?_⟩) ?_
               rotate_left
               · (intro wS hSw; (try dsimp only at hSw); have hcS := fun b o (h : b < wy.heap.size) => hSw.cell (p := ⟨b, o, none⟩) h; go_simp; (try with_reducible rfl))
               try simp only [Act.put, List.setIfInBounds_toArray, List.set_cons_zero, List.set_cons_succ])
              (refine kF.takeL (i := 5) (v := ?_) rfl (by kernel_rfl) (fun _ _ _ h => h) (Or.inl ⟨by rfl, ?_⟩) ?_
               rotate_left
               · (intro wS hSw; (try dsimp only at hSw); have hcS := fun b o (h : b < wy.heap.size) => hSw.cell (p := ⟨b, o, none⟩) h; go_simp; (try with_reducible rfl))
               try simp only [Act.put, List.setIfInBounds_toArray, List.set_cons_zero, List.set_cons_succ])
              (refine kF.takeL (i := 6) (v := ?_) rfl (by kernel_rfl) (fun _ _ _ h => h) (Or.inl ⟨by rfl, ?_⟩) ?_
               rotate_left
               · (intro wS hSw; (try dsimp only at hSw); have hcS := fun b o (h : b < wy.heap.size) => hSw.cell (p := ⟨b, o, none⟩) h; go_simp; (try with_reducible rfl))
               try simp only [Act.put, List.setIfInBounds_toArray, List.set_cons_zero, List.set_cons_succ])
              (refine kF.takeL (i := 7) (v := ?_) rfl (by kernel_rfl) (fun _ _ _ h => h) (Or.inl ⟨by rfl, ?_⟩) ?_
               rotate_left
               · (intro wS hSw; (try dsimp only at hSw); have hcS := fun b o (h : b < wy.heap.size) => hSw.cell (p := ⟨b, o, none⟩) h; go_simp; (try with_reducible rfl))
               try simp only [Act.put, List.setIfInBounds_toArray, List.set_cons_zero, List.set_cons_succ])
              (refine kF.takeL (i := 8) (v := ?_) rfl (by kernel_rfl) (fun _ _ _ h => h) (Or.inl ⟨by rfl, ?_⟩) ?_
               rotate_left
               · (intro wS hSw; (try dsimp only at hSw); have hcS := fun b o (h : b < wy.heap.size) => hSw.cell (p := ⟨b, o, none⟩) h; go_simp; (try with_reducible rfl))
               try simp only [Act.put, List.setIfInBounds_toArray, List.set_cons_zero, List.set_cons_succ])
              (refine kF.takeL (i := 9) (v := ?_) rfl (by kernel_rfl) (fun _ _ _ h => h) (Or.inl ⟨by rfl, ?_⟩) ?_
               rotate_left
               · (intro wS hSw; (try dsimp only at hSw); have hcS := fun b o (h : b < wy.heap.size) => hSw.cell (p := ⟨b, o, none⟩) h; go_simp; (try with_reducible rfl))
               try simp only [Act.put, List.setIfInBounds_toArray, List.set_cons_zero, List.set_cons_succ])
              (refine kF.takeL (i := 10) (v := ?_) rfl (by kernel_rfl) (fun _ _ _ h => h) (Or.inl ⟨by rfl, ?_⟩) ?_
               rotate_left
               · (intro wS hSw; (try dsimp only at hSw); have hcS := fun b o (h : b < wy.heap.size) => hSw.cell (p := ⟨b, o, none⟩) h; go_simp; (try with_reducible rfl))
               try simp only [Act.put, List.setIfInBounds_toArray, List.set_cons_zero, List.set_cons_succ])
              (refine kF.takeL (i := 11) (v := ?_) rfl (by kernel_rfl) (fun _ _ _ h => h) (Or.inl ⟨by rfl, ?_⟩) ?_
               rotate_left
               · (intro wS hSw; (try dsimp only at hSw); have hcS := fun b o (h : b < wy.heap.size) => hSw.cell (p := ⟨b, o, none⟩) h; go_simp; (try with_reducible rfl))
               try simp only [Act.put, List.setIfInBounds_toArray, List.set_cons_zero, List.set_cons_succ])
              (refine kF.takeL (i := 12) (v := ?_) rfl (by kernel_rfl) (fun _ _ _ h => h) (Or.inl ⟨by rfl, ?_⟩) ?_
               rotate_left
               · (intro wS hSw; (try dsimp only at hSw); have hcS := fun b o (h : b < wy.heap.size) => hSw.cell (p := ⟨b, o, none⟩) h; go_simp; (try with_reducible rfl))
               try simp only [Act.put, List.setIfInBounds_toArray, List.set_cons_zero, List.set_cons_succ])
              (refine kF.takeL (i := 13) (v := ?_) rfl (by kernel_rfl) (fun _ _ _ h => h) (Or.inl ⟨by rfl, ?_⟩) ?_
               rotate_left
               · (intro wS hSw; (try dsimp only at hSw); have hcS := fun b o (h : b < wy.heap.size) => hSw.cell (p := ⟨b, o, none⟩) h; go_simp; (try with_reducible rfl))
               try simp only [Act.put, List.setIfInBounds_toArray, List.set_cons_zero, List.set_cons_succ])
              (refine kF.takeL (i := 14) (v := ?_) rfl (by kernel_rfl) (fun _ _ _ h => h) (Or.inl ⟨by rfl, ?_⟩) ?_
               rotate_left
               · (intro wS hSw; (try dsimp only at hSw); have hcS := fun b o (h : b < wy.heap.size) => hSw.cell (p := ⟨b, o, none⟩) h; go_simp; (try with_reducible rfl))
               try simp only [Act.put, List.setIfInBounds_toArray, List.set_cons_zero, List.set_cons_succ])
              (refine kF.takeL (i := 15) (v := ?_) rfl (by kernel_rfl) (fun _ _ _ h => h) (Or.inl ⟨by rfl, ?_⟩) ?_
               rotate_left
               · (intro wS hSw; (try dsimp only at hSw); have hcS := fun b o (h : b < wy.heap.size) => hSw.cell (p := ⟨b, o, none⟩) h; go_simp; (try with_reducible rfl))
               try simp only [Act.put, List.setIfInBounds_toArray, List.set_cons_zero, List.set_cons_succ])
              (refine kF.takeL (i := 16) (v := ?_) rfl (by kernel_rfl) (fun _ _ _ h => h) (Or.inl ⟨by rfl, ?_⟩) ?_
               rotate_left
               · (intro wS hSw; (try dsimp only at hSw); have hcS := fun b o (h : b < wy.heap.size) => hSw.cell (p := ⟨b, o, none⟩) h; go_simp; (try with_reducible rfl))
               try simp only [Act.put, List.setIfInBounds_toArray, List.set_cons_zero, List.set_cons_succ])
              (refine kF.takeL (i := 17) (v := ?_) rfl (by kernel_rfl) (fun _ _ _ h => h) (Or.inl ⟨by rfl, ?_⟩) ?_
               rotate_left
               · (intro wS hSw; (try dsimp only at hSw); have hcS := fun b o (h : b < wy.heap.size) => hSw.cell (p := ⟨b, o, none⟩) h; go_simp; (try with_reducible rfl))
               try simp only [Act.put, List.setIfInBounds_toArray, List.set_cons_zero, List.set_cons_succ])
              (refine kF.takeL (i := 18) (v := ?_) rfl (by kernel_rfl) (fun _ _ _ h => h) (Or.inl ⟨by rfl, ?_⟩) ?_
               rotate_left
               · (intro wS hSw; (try dsimp only at hSw); have hcS := fun b o (h : b < wy.heap.size) => hSw.cell (p := ⟨b, o, none⟩) h; go_simp; (try with_reducible rfl))
               try simp only [Act.put, List.setIfInBounds_toArray, List.set_cons_zero, List.set_cons_succ])
              (refine kF.takeL (i := 19) (v := ?_) rfl (by kernel_rfl) (fun _ _ _ h => h) (Or.inl ⟨by rfl, ?_⟩) ?_
               rotate_left
               · (intro wS hSw; (try dsimp only at hSw); have hcS := fun b o (h : b < wy.heap.size) => hSw.cell (p := ⟨b, o, none⟩) h; go_simp; (try with_reducible rfl))
               try simp only [Act.put, List.setIfInBounds_toArray, List.set_cons_zero, List.set_cons_succ])
              (refine kF.takeL (i := 20) (v := ?_) rfl (by kernel_rfl) (fun _ _ _ h => h) (Or.inl ⟨by rfl, ?_⟩) ?_
               rotate_left
               · (intro wS hSw; (try dsimp only at hSw); have hcS := fun b o (h : b < wy.heap.size) => hSw.cell (p := ⟨b, o, none⟩) h; go_simp; (try with_reducible rfl))
               try simp only [Act.put, List.setIfInBounds_toArray, List.set_cons_zero, List.set_cons_succ])
              (refine kF.takeL (i := 21) (v := ?_) rfl (by kernel_rfl) (fun _ _ _ h => h) (Or.inl ⟨by rfl, ?_⟩) ?_
               rotate_left
               · (intro wS hSw; (try dsimp only at hSw); have hcS := fun b o (h : b < wy.heap.size) => hSw.cell (p := ⟨b, o, none⟩) h; go_simp; (try with_reducible rfl))
               try simp only [Act.put, List.setIfInBounds_toArray, List.set_cons_zero, List.set_cons_succ])
              (refine kF.takeL (i := 22) (v := ?_) rfl (by kernel_rfl) (fun _ _ _ h => h) (Or.inl ⟨by rfl, ?_⟩) ?_
               rotate_left
               · (intro wS hSw; (try dsimp only at hSw); have hcS := fun b o (h : b < wy.heap.size) => hSw.cell (p := ⟨b, o, none⟩) h; go_simp; (try with_reducible rfl))
               try simp only [Act.put, List.setIfInBounds_toArray, List.set_cons_zero, List.set_cons_succ])
              (refine kF.takeL (i := 23) (v := ?_) rfl (by kernel_rfl) (fun _ _ _ h => h) (Or.inl ⟨by rfl, ?_⟩) ?_
               rotate_left
               · (intro wS hSw; (try dsimp only at hSw); have hcS := fun b o (h : b < wy.heap.size) => hSw.cell (p := ⟨b, o, none⟩) h; go_simp; (try with_reducible rfl))
               try simp only [Act.put, List.setIfInBounds_toArray, List.set_cons_zero, List.set_cons_succ])
              (refine kF.takeL (i := 24) (v := ?_) rfl (by kernel_rfl) (fun _ _ _ h => h) (Or.inl ⟨by rfl, ?_⟩) ?_
               rotate_left
               · (intro wS hSw; (try dsimp only at hSw); have hcS := fun b o (h : b < wy.heap.size) => hSw.cell (p := ⟨b, o, none⟩) h; go_simp; (try with_reducible rfl))
               try simp only [Act.put, List.setIfInBounds_toArray, List.set_cons_zero, List.set_cons_succ])
              (refine kF.takeL (i := 25) (v := .int .i64 (j1 : Int)) rfl (by kernel_rfl) (fun _ _ _ h => h) (Or.inl ⟨by rfl, ?_⟩) ?_
               · (intro wS hSw; (try dsimp only at hSw); have hcS := fun b o (h : b < wy.heap.size) => hSw.cell (p := ⟨b, o, none⟩) h; go_simp; (simp only [hwj.out]))
               try simp only [Act.put, List.setIfInBounds_toArray, List.set_cons_zero, List.set_cons_succ])
              (refine kF.takeL (i := 26) (v := ?_) rfl (by kernel_rfl) (fun _ _ _ h => h) (Or.inl ⟨by rfl, ?_⟩) ?_
               rotate_left
               · (intro wS hSw; (try dsimp only at hSw); have hcS := fun b o (h : b < wy.heap.size) => hSw.cell (p := ⟨b, o, none⟩) h; go_simp; (try with_reducible rfl))
               try simp only [Act.put, List.setIfInBounds_toArray, List.set_cons_zero, List.set_cons_succ])
              (refine kF.takeL (i := 27) (v := ?_) rfl (by kernel_rfl) (fun _ _ _ h => h) (Or.inl ⟨by rfl, ?_⟩) ?_
               rotate_left
               · (intro wS hSw; (try dsimp only at hSw); have hcS := fun b o (h : b < wy.heap.size) => hSw.cell (p := ⟨b, o, none⟩) h; go_simp; (try with_reducible rfl))
               try simp only [Act.put, List.setIfInBounds_toArray, List.set_cons_zero, List.set_cons_succ])
              (refine kF.takeL (i := 28) (v := ?_) rfl (by kernel_rfl) (fun _ _ _ h => h) (Or.inl ⟨by rfl, ?_⟩) ?_
               rotate_left
               · (intro wS hSw; (try dsimp only at hSw); have hcS := fun b o (h : b < wy.heap.size) => hSw.cell (p := ⟨b, o, none⟩) h; go_simp; (try with_reducible rfl))
               try simp only [Act.put, List.setIfInBounds_toArray, List.set_cons_zero, List.set_cons_succ])
              (refine kF.takeL (i := 29) (v := ?_) rfl (by kernel_rfl) (fun _ _ _ h => h) (Or.inl ⟨by rfl, ?_⟩) ?_
               rotate_left
               · (intro wS hSw; (try dsimp only at hSw); have hcS := fun b o (h : b < wy.heap.size) => hSw.cell (p := ⟨b, o, none⟩) h; go_simp; (try with_reducible rfl))
               try simp only [Act.put, List.setIfInBounds_toArray, List.set_cons_zero, List.set_cons_succ])
              (refine kF.takeL (i := 30) (v := ?_) rfl (by kernel_rfl) (fun _ _ _ h => h) (Or.inl ⟨by rfl, ?_⟩) ?_
               rotate_left
               · (intro wS hSw; (try dsimp only at hSw); have hcS := fun b o (h : b < wy.heap.size) => hSw.cell (p := ⟨b, o, none⟩) h; go_simp; (try with_reducible rfl))
               try simp only [Act.put, List.setIfInBounds_toArray, List.set_cons_zero, List.set_cons_succ])
              (refine kF.takeL (i := 31) (v := ?_) rfl (by kernel_rfl) (fun _ _ _ h => h) (Or.inl ⟨by rfl, ?_⟩) ?_
               rotate_left
               · (intro wS hSw; (try dsimp only at hSw); have hcS := fun b o (h : b < wy.heap.size) => hSw.cell (p := ⟨b, o, none⟩) h; go_simp; (try with_reducible rfl))
               try simp only [Act.put, List.setIfInBounds_toArray, List.set_cons_zero, List.set_cons_succ])
              (refine kF.takeL (i := 32) (v := ?_) rfl (by kernel_rfl) (fun _ _ _ h => h) (Or.inl ⟨by rfl, ?_⟩) ?_
               rotate_left
               · (intro wS hSw; (try dsimp only at hSw); have hcS := fun b o (h : b < wy.heap.size) => hSw.cell (p := ⟨b, o, none⟩) h; go_simp; (try with_reducible rfl))
               try simp only [Act.put, List.setIfInBounds_toArray, List.set_cons_zero, List.set_cons_succ])
              (refine kF.takeL (i := 33) (v := ?_) rfl (by kernel_rfl) (fun _ _ _ h => h) (Or.inl ⟨by rfl, ?_⟩) ?_
               rotate_left
               · (intro wS hSw; (try dsimp only at hSw); have hcS := fun b o (h : b < wy.heap.size) => hSw.cell (p := ⟨b, o, none⟩) h; go_simp; (try with_reducible rfl))
               try simp only [Act.put, List.setIfInBounds_toArray, List.set_cons_zero, List.set_cons_succ])
              refine kF.done (by kernel_rfl) ?_
              --endR16b
              go_wp2_with fail
              go_meet
              exact ⟨rfl, (by repeat (first | exact Below.refl _ _ | assumption | refine Below.drew ?_ | refine below_drewN ?_ _ | refine Below.alloc ?_ (by first | omega | (simp; try omega)) _ | refine Below.setCell ?_ (by first | omega | (simp; try omega)) _ | (refine Below.trans ?_ (Below.mono (by assumption) (by first | omega | (simp; try omega))))))⟩
          case rest =>
          obtain ⟨rfl, hbf⟩ := hcut
          clear z0 z1 z2 lz p0 p1 p2 y0 ne1 ne2
          go_wp2_with fail
          go_roundw
          case rel => exact ⟨j + 1, by omega, by go_num, hby.trans (hbf.mono hby.size)⟩
          case measure => simp [intOf]; omega
        · obtain rfl : j = ln := by omega
          go_wp2_with fail
          go_roundw
          case rel => exact ⟨q + 1, mm + j, by omega, by go_num, by go_num, hmm4, hmm', hbr5.trans (hbj.mono hbr5.size)⟩
          case measure => simp [intOf]; omega
    · obtain ⟨x0, x1, x2, x3, x4, x5⟩ := bs.out.cells
      have lx := bs.out.lt
      by_cases hqm : q < m
      · have g1 : decide ((q : Int) < 60) = false := by simp; omega
        have g2 : decide ((60 : Int) < (m : Int)) = true := by simp; omega
        replace hlt := Lib.hid hlt
        go_wp2_with fail
        go_ret
        exact ⟨by simp, fw⟩
      · obtain rfl : q = m := by omega
        have htk : PL.take q = PL := List.take_of_length_le (by have := hml.out; omega)
        have hall : mm = v2 := by
          rw [hmm.out, htk, ofPacks_all (fun p hp => (hmem.out p.pack).2 (List.mem_map.2 ⟨p, hp, rfl⟩)), ← hcp.out.1, hn2.out]
        subst hall
        replace htk := Lib.hid htk
        replace hlt := Lib.hid hlt
        by_cases h60 : 60 < q
        · have g2 : decide ((60 : Int) < (q : Int)) = true := by simp; omega
          go_wp2_with fail
          go_ret
          exact ⟨by simp, fw⟩
        · have g2 : decide ((60 : Int) < (q : Int)) = false := by simp; omega
          go_wp2_with fail
          go_ret
          exact ⟨by simp, fw⟩
end Go.Proofs.Ythbmbbbojpdlaaa
