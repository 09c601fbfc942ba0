/-
  The contract of mark.Of.
-/
import Derived.Test.YtdhlmhkabckbaaaGreatDoorMarkA
import Derived.Test.YtdhlmhkabckbaaaGreatDoorFive
import Derived.Test.YtdhlmhkabckbaaaGreatDoorOfB
import Derived.Laws.ResultCell
import Derived.Laws.EntriesVeiled
namespace Go.Proofs.YtdhlmhkabckbaaaGreatDoor
open Go.RowKit
attribute [local go_sem ↓] Go.wp_at_zero Go.wp_at_succ

abbrev Sp.lists (x : Sp) : List (List ByteArray) := [x.live, x.gone, x.stale, x.dead, x.moved]
theorem mayIdx_sizes {cs : List ByteArray} {ps : List Place} (h : mayIdx cs ps = true) : ∀ c ∈ cs, c.size ≤ maxLen := fun c hc => by rw [mayIdx_size h c hc]; decide
/-- What the packs' names weigh. -/
theorem packs_len {s : St} (hm : mayIdx s.cs s.ps = true) : (packsL s).length ≤ 400 := by
  have h1 := setS_len (s.ps.map Place.pack)
  have h2 := mayIdx_len hm
  unfold packsL
  rw [List.length_map] at h1
  omega
set_option maxHeartbeats 16000000 in
set_option maxRecDepth 100000 in
theorem mark_Of (v : Rws) (s : St) (A : Option Addr) (n c : Nat) (L : List ByteArray) (w : World) (h : StAt w w.heap.size v s) (hL : StrsAt w w.heap.size A n L) (hLs : ∀ x ∈ L, x.size ≤ maxLen) (hn : n ≤ 100000) :
    Calls Tryz.prog 29 #[v.val s, .slice A n c] w fun e w' => ∃ v0 v1 v2 v3 v4, e = .returned (.tuple #[.agg #[v0, v1, v2, v3, v4], .int .i64 (markRes s L).2]) ∧ Fives w' w.heap.size [v0, v1, v2, v3, v4] (markRes s L).1.lists ∧ Below w.heap.size w w' := by
  have hP := fun W hs => index_Packs v s W hs
  have hO := fun pk W hs => index_Of v s pk W hs
  have hst := Lib.hid h
  obtain ⟨k, nn, next, sn, cs, ps⟩ := s
  obtain ⟨V1, v1, q1, V2, v2, q2, V3, v3, q3⟩ := v
  unfold Rws.val stv at hP hO
  unfold Rws.val stv
  dsimp only at hP hO ⊢
  have bs := Lib.hid (BoxAt.new w k nn next (.slice V1 v1 q1) (.slice V2 v2 q2) (.slice V3 v3 q3))
  replace hP := Lib.hid hP
  replace hO := Lib.hid hO
  have lL := Lib.hid hL.1
  go_enter Tryz.func29, Tryz.ntmps29
  go_upto_region 1 with fail
  have hf0 : Below w.heap.size w ((w.alloc (.cells #[.int .i64 k, .int .i64 nn, .int .i64 next, .slice V1 v1 q1, .slice V2 v2 q2, .slice V3 v3 q3] 57)).alloc (.cells #[.slice none 0 0, .slice none 0 0, .slice none 0 0, .slice none 0 0, .slice none 0 0] 50)) := ((Below.refl _ _).alloc (Nat.le_refl _) _).alloc (by simp) _
  replace bs := Lib.hid (bs.out.alloc (.cells #[.slice none 0 0, .slice none 0 0, .slice none 0 0, .slice none 0 0, .slice none 0 0] 50))
  have rbx : Hid (SpBox 50 ((w.alloc (.cells #[.int .i64 k, .int .i64 nn, .int .i64 next, .slice V1 v1 q1, .slice V2 v2 q2, .slice V3 v3 q3] 57)).alloc (.cells #[.slice none 0 0, .slice none 0 0, .slice none 0 0, .slice none 0 0, .slice none 0 0] 50)) (w.heap.size + 1) (.slice none 0 0) (.slice none 0 0) (.slice none 0 0) (.slice none 0 0) (.slice none 0 0)) := by
    have := SpBox.new 50 (w.alloc (.cells #[.int .i64 k, .int .i64 nn, .int .i64 next, .slice V1 v1 q1, .slice V2 v2 q2, .slice V3 v3 q3] 57)) (.slice none 0 0) (.slice none 0 0) (.slice none 0 0) (.slice none 0 0) (.slice none 0 0)
    exact Lib.hid (by simpa using this)
  have hz0 : ((w.alloc (.cells #[.int .i64 k, .int .i64 nn, .int .i64 next, .slice V1 v1 q1, .slice V2 v2 q2, .slice V3 v3 q3] 57)).alloc (.cells #[.slice none 0 0, .slice none 0 0, .slice none 0 0, .slice none 0 0, .slice none 0 0] 50)).heap.size = w.heap.size + 2 := by simp
  generalize (w.alloc (.cells #[.int .i64 k, .int .i64 nn, .int .i64 next, .slice V1 v1 q1, .slice V2 v2 q2, .slice V3 v3 q3] 57)).alloc (.cells #[.slice none 0 0, .slice none 0 0, .slice none 0 0, .slice none 0 0, .slice none 0 0] 50) = w0 at bs hf0 rbx hz0 ⊢
  have sst := Lib.hid (hst.out.to hf0)
  have rL := Lib.hid (hL.to hf0)
  clear hst h hL
  obtain ⟨x0, x1, x2, x3, x4, x5⟩ := bs.out.cells
  go_wp2_with fail
  refine (hP.out w0 sst.out).mono ?_
  rintro e w1 ⟨u, rfl, ou, hb1⟩
  have hz1 := hb1.size
  replace bs := Lib.hid (bs.out.below hb1)
  replace rbx := Lib.hid (rbx.out.below (by omega : w.heap.size + 1 < w0.heap.size) hb1)
  replace sst := Lib.hid (sst.out.to hb1)
  replace rL := Lib.hid (rL.out.to hb1)
  have fw := hf0.trans (hb1.mono (by omega))
  clear x0 x1 x2 x3 x4 x5 hf0
  cases hm : mayIdx cs ps
  · have hpk : packsRes ⟨k, nn, next, sn, cs, ps⟩ = ([], 4) := by simp [packsRes, hm]
    have hres : Hid (markRes ⟨k, nn, next, sn, cs, ps⟩ L = (⟨[], [], [], [], []⟩, 4)) := by simp [Hid, markRes, hm]
    rw [hpk]
    replace hm := Lib.hid hm
    clear ou hpk
    obtain ⟨r0, r1, r2, r3, r4⟩ := rbx.out.cells
    have rlt := rbx.out.lt
    have e0 := rbx.out.frozen 0
    have e1 := rbx.out.frozen 1
    have e2 := rbx.out.frozen 2
    have e3 := rbx.out.frozen 3
    have e4 := rbx.out.frozen 4
    go_wp2_with fail
    exact bodyPost_ret (v := .tuple #[.agg #[.slice none 0 0, .slice none 0 0, .slice none 0 0, .slice none 0 0, .slice none 0 0], .int .i64 4]) (by rw [results_cell_tmp Tryz.results29]; simp [go_sem, r0, r1, r2, r3, r4]) rfl
      ⟨.slice none 0 0, .slice none 0 0, .slice none 0 0, .slice none 0 0, .slice none 0 0, by rw [hres.out], by rw [hres.out]; exact Fives.nils _ _ 5, ((((fw.setCell (p := ⟨w.heap.size + 1, 0, none⟩) (by simp) _).setCell (p := ⟨w.heap.size + 1, 1, none⟩) (by simp) _).setCell (p := ⟨w.heap.size + 1, 2, none⟩) (by simp) _).setCell (p := ⟨w.heap.size + 1, 3, none⟩) (by simp) _).setCell (p := ⟨w.heap.size + 1, 4, none⟩) (by simp) _⟩
  · have hpk : packsRes ⟨k, nn, next, sn, cs, ps⟩ = (packsL ⟨k, nn, next, sn, cs, ps⟩, 0) := by simp [packsRes, packsL, hm]
    have hres : Hid (markRes ⟨k, nn, next, sn, cs, ps⟩ L = (markSp ⟨k, nn, next, sn, cs, ps⟩ L, 0)) := by simp [Hid, markRes, hm]
    rw [hpk] at ou ⊢
    obtain ⟨PL, hPL⟩ : ∃ x, x = packsL ⟨k, nn, next, sn, cs, ps⟩ := ⟨_, rfl⟩
    rw [← hPL] at ou
    obtain ⟨m, hml⟩ : ∃ x, x = PL.length := ⟨_, rfl⟩
    obtain ⟨A5, c5, rfl⟩ : ∃ A c, u = .slice A m c := by obtain ⟨A, c, e⟩ := ou.form; exact ⟨A, c, by rw [e, hml]⟩
    have rK := Lib.hid (ou.row strCell_len)
    have hmx : m ≤ 400 := by rw [hml, hPL]; exact packs_len hm
    have hnd : Hid ((movedL ⟨k, nn, next, sn, cs, ps⟩ L PL).Nodup) := movedL_nodup (s := ⟨k, nn, next, sn, cs, ps⟩) hm (hPL ▸ riseS_nodup (setS_rise _))
    replace hPL := Lib.hid hPL
    replace hml := Lib.hid hml
    clear hpk ou
    replace hm := Lib.hid hm
    have hmm := @run_makeMap Tryz.prog
    go_wp2_with fail
    go_loopw [10, 33] (fun _ i wr => ∃ j : Nat, j ≤ n ∧ i = .int .i64 j ∧ CntAt wr w1.heap.size (L.take j) ∧ wr.cell? ⟨w1.heap.size + 1, 0, none⟩ = some (.map (some w1.heap.size)) ∧ w1.heap.size + 2 ≤ wr.heap.size ∧ Below w1.heap.size w1 wr) (fun _ i _ => n - (intOf i).toNat)
    case atStart => exact ⟨0, Nat.zero_le _, rfl, by simpa using (CntAt.made w1).alloc _, by simp, by simp, (by repeat (first | exact Below.refl _ _ | assumption | refine Below.drew ?_ | refine below_drewN ?_ _ | refine Below.alloc ?_ (by first | omega | (simp; try omega)) _ | refine Below.setCell ?_ (by first | omega | (simp; try omega)) _ | (refine Below.trans ?_ (Below.mono (by assumption) (by first | omega | (simp; try omega))))))⟩
    case round =>
      obtain ⟨j, hj, rfl, hcnt, hc8, hzr, hbr⟩ := hrel
      by_cases hlt : j < n
      · obtain ⟨b0, off, d, rfl, hb0, hx, q0⟩ := (rL.out.to hbr).str hlt
        have hsz : d.size ≤ maxLen := hLs d (List.mem_of_getElem? hx)
        have htk : Hid (L.take (j + 1) = L.take j ++ [d]) := by
          unfold Hid
          rw [List.take_add_one, hx]
          simp
        have hlen : (L.take j).length < 1000000000 := by simp; omega
        replace hx := Lib.hid hx
        replace hlen := Lib.hid hlen
        replace hsz := Lib.hid hsz
        go_wp2_with (first
          | (at_lookup; go_must (refine wpList_cnt_lookup _ rfl _ _ rfl w1.heap.size _ rfl hcnt d rfl hsz.out ?_); intro c hc9 hc)
          | (at_mapUpdate; go_must (refine wpList_cnt_update _ rfl _ _ _ rfl w1.heap.size _ rfl hcnt hlen.out d rfl hsz.out c hc rfl ?_); intro w3 hcnt3 hg3))
        have hc8' : w3.cell? ⟨w1.heap.size + 1, 0, none⟩ = some (.map (some w1.heap.size)) := (World.cell?_of_block (hg3.block (w1.heap.size + 1) (by omega) (by simp))).trans hc8
        go_roundw
        case rel => exact ⟨j + 1, by omega, by go_num, by rw [htk.out]; exact hcnt3, hc8', Nat.le_trans hzr hg3.size, Below.grown (by repeat (first | exact Below.refl _ _ | assumption | refine Below.drew ?_ | refine below_drewN ?_ _ | refine Below.alloc ?_ (by first | omega | (simp; try omega)) _ | refine Below.setCell ?_ (by first | omega | (simp; try omega)) _ | (refine Below.trans ?_ (Below.mono (by assumption) (by first | omega | (simp; try omega)))))) hg3 (by first | omega | (simp; try omega)) (fun _ hi => by cases hi; exact Nat.le_refl _)⟩
        case measure => simp [intOf]; omega
      · obtain rfl : j = n := by omega
        have htk : L.take j = L := List.take_of_length_le (by have := lL.out; omega)
        rw [htk] at hcnt
        replace htk := Lib.hid htk
        obtain ⟨wA, rfl⟩ : ∃ x : World, x = wr := ⟨_, rfl⟩
        go_upto_region 12 with fail
        have hB : Below w1.heap.size w1 ((wA.alloc (.cells #[.func (.func 56) #[] #[.pointer (some ⟨w1.heap.size + 1, 0, none⟩)]] 92)).alloc (.cells #[.slice none 0 0, .slice none 0 0, .slice none 0 0, .slice none 0 0, .slice none 0 0] 50)) := (hbr.alloc (by omega) _).alloc (by simp; omega) _
        have hzB : ((wA.alloc (.cells #[.func (.func 56) #[] #[.pointer (some ⟨w1.heap.size + 1, 0, none⟩)]] 92)).alloc (.cells #[.slice none 0 0, .slice none 0 0, .slice none 0 0, .slice none 0 0, .slice none 0 0] 50)).heap.size = wA.heap.size + 2 := by simp
        have hc8B : ((wA.alloc (.cells #[.func (.func 56) #[] #[.pointer (some ⟨w1.heap.size + 1, 0, none⟩)]] 92)).alloc (.cells #[.slice none 0 0, .slice none 0 0, .slice none 0 0, .slice none 0 0, .slice none 0 0] 50)).cell? ⟨w1.heap.size + 1, 0, none⟩ = some (.map (some w1.heap.size)) := (World.cell?_alloc_lt _ _ _ (by simp; omega)).trans ((World.cell?_alloc_lt _ _ _ (by simp; omega)).trans hc8)
        have hfB : ((wA.alloc (.cells #[.func (.func 56) #[] #[.pointer (some ⟨w1.heap.size + 1, 0, none⟩)]] 92)).alloc (.cells #[.slice none 0 0, .slice none 0 0, .slice none 0 0, .slice none 0 0, .slice none 0 0] 50)).cell? ⟨wA.heap.size, 0, none⟩ = some (.func (.func 56) #[] #[.pointer (some ⟨w1.heap.size + 1, 0, none⟩)]) := by simp
        have hcB : Hid (CntAt ((wA.alloc (.cells #[.func (.func 56) #[] #[.pointer (some ⟨w1.heap.size + 1, 0, none⟩)]] 92)).alloc (.cells #[.slice none 0 0, .slice none 0 0, .slice none 0 0, .slice none 0 0, .slice none 0 0] 50)) w1.heap.size L) := (hcnt.alloc _).alloc _
        have oB : SpBox 50 ((wA.alloc (.cells #[.func (.func 56) #[] #[.pointer (some ⟨w1.heap.size + 1, 0, none⟩)]] 92)).alloc (.cells #[.slice none 0 0, .slice none 0 0, .slice none 0 0, .slice none 0 0, .slice none 0 0] 50)) (wA.heap.size + 1) (.slice none 0 0) (.slice none 0 0) (.slice none 0 0) (.slice none 0 0) (.slice none 0 0) := by
          have := SpBox.new 50 (wA.alloc (.cells #[.func (.func 56) #[] #[.pointer (some ⟨w1.heap.size + 1, 0, none⟩)]] 92)) (.slice none 0 0) (.slice none 0 0) (.slice none 0 0) (.slice none 0 0) (.slice none 0 0)
          simpa using this
        generalize (wA.alloc (.cells #[.func (.func 56) #[] #[.pointer (some ⟨w1.heap.size + 1, 0, none⟩)]] 92)).alloc (.cells #[.slice none 0 0, .slice none 0 0, .slice none 0 0, .slice none 0 0, .slice none 0 0] 50) = wB at hB hzB hc8B hfB hcB oB ⊢
        clear hcnt hc8
        obtain ⟨x0, x1, x2, x3, x4, x5⟩ := (bs.out.below hB).cells
        go_wp2_with fail
        clear x0 x1 x2 x3 x4 x5
        go_loopw [14, 46] (fun _ i wq => ∃ (j2 : Nat) (a0 a1 : Value), j2 ≤ v2 ∧ i = .int .i64 j2 ∧ SpBox 50 wq (wA.heap.size + 1) a0 a1 (.slice none 0 0) (.slice none 0 0) (.slice none 0 0) ∧
          Fives wq (wA.heap.size + 2) [a0, a1, .slice none 0 0, .slice none 0 0, .slice none 0 0] [(cs.take j2).filter (fun c => decide (c ∈ L)), (cs.take j2).filter (fun c => !decide (c ∈ L)), [], [], []] ∧ Below (wA.heap.size + 1) wB wq) (fun _ i _ => v2 - (intOf i).toNat)
        case atStart => exact ⟨0, _, _, Nat.zero_le _, rfl, oB, by simpa using Fives.nils wB (wA.heap.size + 2) 5, Below.refl _ _⟩
        case round =>
          obtain ⟨j2, a0, a1, hj2, rfl, ob, fv, hbq⟩ := hrel
          obtain ⟨wq, rfl⟩ : ∃ x : World, x = wr := ⟨_, rfl⟩
          have hzq := hbq.size
          by_cases hlt2 : j2 < v2
          · have hch : Below w1.heap.size w1 wq := hB.trans (hbq.mono (by omega))
            obtain ⟨b0, off, d, rfl, hb0, hx, q0⟩ := (sst.out.to hch).cs.str hlt2
            have hsz : d.size ≤ maxLen := mayIdx_sizes hm.out d (List.mem_of_getElem? hx)
            have hcall := mark_is d hsz (w1.heap.size + 1) w1.heap.size L wq ((hbq.cell (p := ⟨w1.heap.size + 1, 0, none⟩) (by simp; omega)).trans hc8B) (hcB.out.block (hbq.block _ (by omega)))
            have hf := (hbq.cell (p := ⟨wA.heap.size, 0, none⟩) (by simp)).trans hfB
            have l4 : v2 ≤ 400 := by have := (mayIdx_len hm.out).2; have := sst.out.cs.1; dsimp only at this; omega
            have hl0 : ((cs.take j2).filter (fun c => decide (c ∈ L))).length ≤ 400 := Nat.le_trans (List.length_filter_le _ _) (by simp; omega)
            have hl1 : ((cs.take j2).filter (fun c => !decide (c ∈ L))).length ≤ 400 := Nat.le_trans (List.length_filter_le _ _) (by simp; omega)
            have ht : cs.take (j2 + 1) = cs.take j2 ++ [d] := by rw [List.take_add_one, hx]; rfl
            cases hin : decide (d ∈ L)
            · have hy0 : Hid ((cs.take (j2 + 1)).filter (fun c => decide (c ∈ L)) = (cs.take j2).filter (fun c => decide (c ∈ L))) := by unfold Hid; rw [ht, List.filter_append]; simp [hin]
              have hy1 : Hid ((cs.take (j2 + 1)).filter (fun c => !decide (c ∈ L)) = (cs.take j2).filter (fun c => !decide (c ∈ L)) ++ [d]) := by unfold Hid; rw [ht, List.filter_append]; simp [hin]
              rw [hin] at hcall
              replace hin := Lib.hid hin
              replace hx := Lib.hid hx
              replace ht := Lib.hid ht
              replace hsz := Lib.hid hsz
              go_wp2_with fail
              refine hcall.mono ?_
              rintro e w7 ⟨rfl, q, rfl⟩
              have ob' : SpBox 50 (wq.drewN q) (wA.heap.size + 1) a0 a1 (.slice none 0 0) (.slice none 0 0) (.slice none 0 0) := ob
              have fv' := fv.keep (w' := wq.drewN q) (fun _ _ h => Owns.drewN h q)
              have hb' : Below (wA.heap.size + 1) wB (wq.drewN q) := ⟨hbq.os, hbq.tape, hbq.output, hbq.size, hbq.block⟩
              have hz' := hb'.size
              generalize wq.drewN q = w7 at ob' fv' hb' hz' ⊢
              generalize (cs.take j2).filter (fun c => decide (c ∈ L)) = F0 at fv' hl0 hy0
              generalize (cs.take j2).filter (fun c => !decide (c ∈ L)) = F1 at fv' hl1 hy1
              clear hf q0 hcall
              obtain ⟨y0, y1, y2, y3, y4⟩ := ob'.cells
              have ly := ob'.lt
              have e0 := ob'.frozen 1
              have ho9 := (fv'.alloc (.cells #[.string d] 9)).own 1 _ _ rfl rfl
              have hne := Owns.ne_box ho9 (b := wA.heap.size + 1) (by omega)
              go_wp2_with (at_builtin; go_must (refine Elem.wpList_one strE rfl (.tmp 60) (.tmp 62) rfl (wA.heap.size + 2) _ (_) rfl _ _ d rfl (ho9) (fun j u hu => by rcases j with _ | _ | _ | j <;> simp [strE, strCell] at hu <;> subst hu <;> go_simp) (by first | omega | (simp; omega)) (by first | omega | (simp; try omega)) ?_); intro v9 w9 hown9 hg9 hat9; obtain ⟨A9, n9, c9, rfl⟩ := Owns.form3 hown9; have bx9 := (SpBox.alloc ob' _).grown hg9 hne; obtain ⟨z0, z1, z2, z3, z4⟩ := bx9.cells; have lz := bx9.lt; have f0 := bx9.frozen 1)
              have hbz : Below (wA.heap.size + 1) wB w9 := (hb'.alloc (by omega) _).grown hg9 (by simp; omega) (fun g hg => by have := (Owns.within ho9 hg).1; omega)
              go_roundw
              case rel => exact ⟨j2 + 1, a0, _, by omega, by go_num, bx9.set1 _, by rw [hy0.out, hy1.out]; exact ((fv'.alloc _).step 1 rfl hown9 hg9 hat9).setOther (b := wA.heap.size + 1) (o := 1) _ (by omega), hbz.setCell (p := ⟨wA.heap.size + 1, 1, none⟩) (by simp) _⟩
              case measure => simp [intOf]; omega
            · have hy0 : Hid ((cs.take (j2 + 1)).filter (fun c => decide (c ∈ L)) = (cs.take j2).filter (fun c => decide (c ∈ L)) ++ [d]) := by unfold Hid; rw [ht, List.filter_append]; simp [hin]
              have hy1 : Hid ((cs.take (j2 + 1)).filter (fun c => !decide (c ∈ L)) = (cs.take j2).filter (fun c => !decide (c ∈ L))) := by unfold Hid; rw [ht, List.filter_append]; simp [hin]
              rw [hin] at hcall
              replace hin := Lib.hid hin
              replace hx := Lib.hid hx
              replace ht := Lib.hid ht
              replace hsz := Lib.hid hsz
              go_wp2_with fail
              refine hcall.mono ?_
              rintro e w7 ⟨rfl, q, rfl⟩
              have ob' : SpBox 50 (wq.drewN q) (wA.heap.size + 1) a0 a1 (.slice none 0 0) (.slice none 0 0) (.slice none 0 0) := ob
              have fv' := fv.keep (w' := wq.drewN q) (fun _ _ h => Owns.drewN h q)
              have hb' : Below (wA.heap.size + 1) wB (wq.drewN q) := ⟨hbq.os, hbq.tape, hbq.output, hbq.size, hbq.block⟩
              have hz' := hb'.size
              generalize wq.drewN q = w7 at ob' fv' hb' hz' ⊢
              generalize (cs.take j2).filter (fun c => decide (c ∈ L)) = F0 at fv' hl0 hy0
              generalize (cs.take j2).filter (fun c => !decide (c ∈ L)) = F1 at fv' hl1 hy1
              clear hf q0 hcall
              obtain ⟨y0, y1, y2, y3, y4⟩ := ob'.cells
              have ly := ob'.lt
              have e0 := ob'.frozen 0
              have ho9 := (fv'.alloc (.cells #[.string d] 9)).own 0 _ _ rfl rfl
              have hne := Owns.ne_box ho9 (b := wA.heap.size + 1) (by omega)
              go_wp2_with (at_builtin; go_must (refine Elem.wpList_one strE rfl (.tmp 54) (.tmp 56) rfl (wA.heap.size + 2) _ (_) rfl _ _ d rfl (ho9) (fun j u hu => by rcases j with _ | _ | _ | j <;> simp [strE, strCell] at hu <;> subst hu <;> go_simp) (by first | omega | (simp; omega)) (by first | omega | (simp; try omega)) ?_); intro v9 w9 hown9 hg9 hat9; obtain ⟨A9, n9, c9, rfl⟩ := Owns.form3 hown9; have bx9 := (SpBox.alloc ob' _).grown hg9 hne; obtain ⟨z0, z1, z2, z3, z4⟩ := bx9.cells; have lz := bx9.lt; have f0 := bx9.frozen 0)
              have hbz : Below (wA.heap.size + 1) wB w9 := (hb'.alloc (by omega) _).grown hg9 (by simp; omega) (fun g hg => by have := (Owns.within ho9 hg).1; omega)
              go_roundw
              case rel => exact ⟨j2 + 1, _, a1, by omega, by go_num, bx9.set0 _, by rw [hy0.out, hy1.out]; exact ((fv'.alloc _).step 0 rfl hown9 hg9 hat9).setOther (b := wA.heap.size + 1) (o := 0) _ (by omega), hbz.setCell (p := ⟨wA.heap.size + 1, 0, none⟩) (by simp) _⟩
              case measure => simp [intOf]; omega
          · obtain rfl : j2 = v2 := by omega
            have ht : cs.take j2 = cs := List.take_of_length_le (by have := sst.out.cs.1; dsimp only at this; omega)
            rw [ht] at fv
            replace ht := Lib.hid ht
            go_upto_region 20 with fail
            have hchq : Below w1.heap.size w1 wq := hB.trans (hbq.mono (by omega))
            go_loopw [16, 17, 18, 19, 20, 68] (fun _ _ _ _ _ i wp => ∃ (q : Nat) (a2 a3 a4 : Value), q ≤ m ∧ i = .int .i64 q ∧ SpBox 50 wp (wA.heap.size + 1) a0 a1 a2 a3 a4 ∧
              Fives wp (wA.heap.size + 2) [a0, a1, a2, a3, a4] [cs.filter (fun c => decide (c ∈ L)), cs.filter (fun c => !decide (c ∈ L)), (PL.take q).filter (staleP ⟨k, nn, next, sn, cs, ps⟩ L), (PL.take q).filter (deadP ⟨k, nn, next, sn, cs, ps⟩ L), movedL ⟨k, nn, next, sn, cs, ps⟩ L (PL.take q)] ∧ Below (wA.heap.size + 1) wq wp) (fun _ _ _ _ _ i _ => m - (intOf i).toNat)
            case atStart => exact ⟨0, _, _, _, Nat.zero_le _, rfl, ob, by simpa [movedL] using fv, Below.refl _ _⟩
            case round =>
              obtain ⟨q, a2, a3, a4, hq, rfl, op, fp, hbp⟩ := hrel
              obtain ⟨wp, rfl⟩ : ∃ x : World, x = wr := ⟨_, rfl⟩
              have hzp := hbp.size
              by_cases hlt3 : q < m
              · have hch : Below w1.heap.size w1 wp := hchq.trans (hbp.mono (by omega))
                have hBp : Below (wA.heap.size + 1) wB wp := hbq.trans hbp
                obtain ⟨b0, off, pk, rfl, hb0, hxk, y9⟩ := (rK.out.to hch).str hlt3
                have hin : pk ∈ PL := List.mem_of_getElem? hxk
                have hne := inD_ne (s := ⟨k, nn, next, sn, cs, ps⟩) hm.out (hPL.out ▸ hin)
                have ht : PL.take (q + 1) = PL.take q ++ [pk] := by rw [List.take_add_one, hxk]; rfl
                have hl2 : ((PL.take q).filter (staleP ⟨k, nn, next, sn, cs, ps⟩ L)).length ≤ 400 := Nat.le_trans (List.length_filter_le _ _) (by simp; omega)
                have hl3 : ((PL.take q).filter (deadP ⟨k, nn, next, sn, cs, ps⟩ L)).length ≤ 400 := Nat.le_trans (List.length_filter_le _ _) (by simp; omega)
                have hl4 : (movedL ⟨k, nn, next, sn, cs, ps⟩ L (PL.take q)).length ≤ 400 * 400 := by
                  have h1 := movedL_len (s := ⟨k, nn, next, sn, cs, ps⟩) (L := L) hm.out (PL.take q)
                  have h2 : (PL.take q).length ≤ 400 := by simp; omega
                  omega
                replace hxk := Lib.hid hxk
                replace hin := Lib.hid hin
                obtain ⟨x0, x1, x2, x3, x4, x5⟩ := (bs.out.below hch).cells
                go_wp2_with fail
                refine (hO.out pk wp (sst.out.to hch)).mono ?_
                rintro e w4 ⟨u1, u2, D, P, z, rfl, hres4, ow1, ow2, hb4⟩
                obtain rfl := ofRes_inD (s := ⟨k, nn, next, sn, cs, ps⟩) hm.out hres4
                have hsizes : ∀ x ∈ inD ⟨k, nn, next, sn, cs, ps⟩ pk, x.size ≤ maxLen := fun x hx => mayIdx_sizes hm.out x (inD_sub (s := ⟨k, nn, next, sn, cs, ps⟩) hm.out hx)
                have hlD := inD_len (s := ⟨k, nn, next, sn, cs, ps⟩) (pack := pk) hm.out
                obtain ⟨ln, hln⟩ : ∃ x, x = (inD ⟨k, nn, next, sn, cs, ps⟩ pk).length := ⟨_, rfl⟩
                obtain ⟨A8, c8, rfl⟩ : ∃ A c, u1 = .slice A ln c := by obtain ⟨A, c, e⟩ := ow1.form; exact ⟨A, c, by rw [e, hln]⟩
                have r8 := ow1.row strCell_len
                have hz4 := hb4.size
                clear hres4 ow1 ow2 x0 x1 x2 x3 x4 x5 y9
                replace hln := Lib.hid hln
                go_wp2_with fail
                refine (clone_strs A8 ln c8 _ w4 r8 (by have := hln.out; omega)).mono ?_
                rintro e w5 ⟨v5, rfl, ow5, hb5⟩
                have hz5 := hb5.size
                have h45 : Below wp.heap.size wp w5 := hb4.trans (hb5.mono hz4)
                have hB5 : Below (wA.heap.size + 1) wB w5 := hBp.trans (h45.mono (by omega))
                go_wp2_with fail
                refine (delete_strs ow5 hne hsizes (by omega) (w1.heap.size + 1) wA.heap.size w1.heap.size L (by omega) (by omega) (by omega) ((hB5.cell (p := ⟨wA.heap.size, 0, none⟩) (by simp)).trans hfB) ((hB5.cell (p := ⟨w1.heap.size + 1, 0, none⟩) (by simp; omega)).trans hc8B) (hcB.out.block (hB5.block _ (by omega)))).mono ?_
                rintro e w6 ⟨A6, m9, c6, rfl, r6, hg6, hb6⟩
                have hz6 := hb6.size
                have h46 : Below wp.heap.size wp w6 := hb4.trans ((hb5.trans hb6).mono hz4)
                have hB6 : Below (wA.heap.size + 1) wB w6 := hBp.trans (h46.mono (by omega))
                have op6 := SpBox.below op op.lt h46
                have fp6 := fp.below h46
                have hm9 : (keptD ⟨k, nn, next, sn, cs, ps⟩ L pk).length = m9 := r6.1
                have hK : Hid (StrsAt w6 w6.heap.size A6 m9 (keptD ⟨k, nn, next, sn, cs, ps⟩ L pk)) := r6
                have hbw6 : w6.heap.size ≥ w4.heap.size := by omega
                have hm4 : m9 ≤ 400 := hm9 ▸ kept_len (s := ⟨k, nn, next, sn, cs, ps⟩) hm.out
                clear ow5 r6 r8 hsizes hne h45 hB5 hb6 hb5
                by_cases h0 : m9 = 0
                · subst h0
                  have hs9 : staleP ⟨k, nn, next, sn, cs, ps⟩ L pk = false := by unfold staleP; rw [hm9, ← hln.out]; simp
                  have hd9 : deadP ⟨k, nn, next, sn, cs, ps⟩ L pk = true := by unfold deadP; rw [hm9]; simp
                  have e2 : Hid ((PL.take (q + 1)).filter (staleP ⟨k, nn, next, sn, cs, ps⟩ L) = (PL.take q).filter (staleP ⟨k, nn, next, sn, cs, ps⟩ L)) := by unfold Hid; rw [ht, List.filter_append]; simp [hs9]
                  have e3 : Hid ((PL.take (q + 1)).filter (deadP ⟨k, nn, next, sn, cs, ps⟩ L) = (PL.take q).filter (deadP ⟨k, nn, next, sn, cs, ps⟩ L) ++ [pk]) := by unfold Hid; rw [ht, List.filter_append]; simp [hd9]
                  have e4 : Hid (movedL ⟨k, nn, next, sn, cs, ps⟩ L (PL.take (q + 1)) = movedL ⟨k, nn, next, sn, cs, ps⟩ L (PL.take q)) := by unfold Hid; rw [ht]; exact movedL_no hs9
                  clear hs9 hd9
                  replace ht := Lib.hid ht
                  generalize (PL.take q).filter (staleP ⟨k, nn, next, sn, cs, ps⟩ L) = F2 at fp6 hl2 e2
                  generalize (PL.take q).filter (deadP ⟨k, nn, next, sn, cs, ps⟩ L) = F3 at fp6 hl3 e3
                  generalize movedL ⟨k, nn, next, sn, cs, ps⟩ L (PL.take q) = F4 at fp6 hl4 e4
                  clear op fp
                  obtain ⟨y0, y1, y2, y3, y4⟩ := op6.cells
                  have ly := op6.lt
                  have ho9 := (fp6.alloc (.cells #[.string pk] 9)).own 3 _ _ rfl rfl
                  have hne := Owns.ne_box ho9 (b := wA.heap.size + 1) (by omega)
                  go_wp2_with (at_builtin; go_must (refine Elem.wpList_one strE rfl (.tmp 99) (.tmp 101) rfl (wA.heap.size + 2) _ (_) rfl _ _ pk rfl (ho9) (fun j u hu => by rcases j with _ | _ | _ | j <;> simp [strE, strCell] at hu <;> subst hu <;> go_simp) (by first | omega | (simp; omega)) (by first | omega | (simp; try omega)) ?_); intro v9 w9 hown9 hg9 hat9; obtain ⟨A9, n9, c9, rfl⟩ := Owns.form3 hown9; have bx9 := (SpBox.alloc op6 _).grown hg9 hne; obtain ⟨z0, z1, z2, z3, z4⟩ := bx9.cells; have lz := bx9.lt; have f0 := bx9.frozen 3)
                  have hbz : Below (wA.heap.size + 1) wq w9 := ((hbp.trans (h46.mono (by omega))).alloc (by omega) _).grown hg9 (by simp; omega) (fun g hg => by have := (Owns.within ho9 hg).1; omega)
                  go_roundw
                  case rel => exact ⟨q + 1, a2, _, a4, by omega, by go_num, bx9.set3 _, by rw [e2.out, e3.out, e4.out]; exact ((fp6.alloc _).step 3 rfl hown9 hg9 hat9).setOther (b := wA.heap.size + 1) (o := 3) _ (by omega), hbz.setCell (p := ⟨wA.heap.size + 1, 3, none⟩) (by simp) _⟩
                  case measure => simp [intOf]; omega
                · by_cases h1 : m9 = ln
                  · have g0 : ((m9 : Int) == 0) = false := by simp; omega
                    have g1 : ((m9 : Int) == (ln : Int)) = true := by simp [h1]
                    have hs9 : staleP ⟨k, nn, next, sn, cs, ps⟩ L pk = false := by unfold staleP; rw [hm9, ← hln.out]; simp [h0, h1]
                    have hd9 : deadP ⟨k, nn, next, sn, cs, ps⟩ L pk = false := by unfold deadP; rw [hm9]; simp [h0]
                    have e2 : Hid ((PL.take (q + 1)).filter (staleP ⟨k, nn, next, sn, cs, ps⟩ L) = (PL.take q).filter (staleP ⟨k, nn, next, sn, cs, ps⟩ L)) := by unfold Hid; rw [ht, List.filter_append]; simp [hs9]
                    have e3 : Hid ((PL.take (q + 1)).filter (deadP ⟨k, nn, next, sn, cs, ps⟩ L) = (PL.take q).filter (deadP ⟨k, nn, next, sn, cs, ps⟩ L)) := by unfold Hid; rw [ht, List.filter_append]; simp [hd9]
                    have e4 : Hid (movedL ⟨k, nn, next, sn, cs, ps⟩ L (PL.take (q + 1)) = movedL ⟨k, nn, next, sn, cs, ps⟩ L (PL.take q)) := by unfold Hid; rw [ht]; exact movedL_no hs9
                    clear hs9 hd9
                    replace ht := Lib.hid ht
                    generalize (PL.take q).filter (staleP ⟨k, nn, next, sn, cs, ps⟩ L) = F2 at fp6 hl2 e2
                    generalize (PL.take q).filter (deadP ⟨k, nn, next, sn, cs, ps⟩ L) = F3 at fp6 hl3 e3
                    generalize movedL ⟨k, nn, next, sn, cs, ps⟩ L (PL.take q) = F4 at fp6 hl4 e4
                    clear op fp
                    go_wp2_with fail
                    go_roundw
                    case rel => exact ⟨q + 1, a2, a3, a4, by omega, by go_num, op6, by rw [e2.out, e3.out, e4.out]; exact fp6, hbp.trans (h46.mono (by omega))⟩
                    case measure => simp [intOf]; omega
                  · have g0 : ((m9 : Int) == 0) = false := by simp; omega
                    have g1 : ((m9 : Int) == (ln : Int)) = false := by simp; omega
                    have hs9 : staleP ⟨k, nn, next, sn, cs, ps⟩ L pk = true := by unfold staleP; rw [hm9, ← hln.out]; simp [h0, h1]
                    have hd9 : deadP ⟨k, nn, next, sn, cs, ps⟩ L pk = false := by unfold deadP; rw [hm9]; simp [h0]
                    have e2 : Hid ((PL.take (q + 1)).filter (staleP ⟨k, nn, next, sn, cs, ps⟩ L) = (PL.take q).filter (staleP ⟨k, nn, next, sn, cs, ps⟩ L) ++ [pk]) := by unfold Hid; rw [ht, List.filter_append]; simp [hs9]
                    have e3 : Hid ((PL.take (q + 1)).filter (deadP ⟨k, nn, next, sn, cs, ps⟩ L) = (PL.take q).filter (deadP ⟨k, nn, next, sn, cs, ps⟩ L)) := by unfold Hid; rw [ht, List.filter_append]; simp [hd9]
                    have e4 : Hid (movedL ⟨k, nn, next, sn, cs, ps⟩ L (PL.take (q + 1)) = movedL ⟨k, nn, next, sn, cs, ps⟩ L (PL.take q) ++ keptD ⟨k, nn, next, sn, cs, ps⟩ L pk) := by unfold Hid; rw [ht]; exact movedL_yes hs9
                    clear hs9 hd9
                    replace ht := Lib.hid ht
                    generalize (PL.take q).filter (staleP ⟨k, nn, next, sn, cs, ps⟩ L) = F2 at fp6 hl2 e2
                    generalize (PL.take q).filter (deadP ⟨k, nn, next, sn, cs, ps⟩ L) = F3 at fp6 hl3 e3
                    generalize movedL ⟨k, nn, next, sn, cs, ps⟩ L (PL.take q) = F4 at fp6 hl4 e4
                    clear op
                    obtain ⟨y0, y1, y2, y3, y4⟩ := op6.cells
                    have ly := op6.lt
                    have ho9 := (fp6.alloc (.cells #[.string pk] 9)).own 2 _ _ rfl rfl
                    have hne := Owns.ne_box ho9 (b := wA.heap.size + 1) (by omega)
                    have hin8 := fun g (hg : a2.ownBlock = some g) => Owns.within (fp.own 2 _ _ rfl rfl) hg
                    go_upto_region 26 with (at_builtin; go_must (refine Elem.wpList_one strE rfl (.tmp 86) (.tmp 88) rfl (wA.heap.size + 2) _ (_) rfl _ _ pk rfl (ho9) (fun j u hu => by rcases j with _ | _ | _ | j <;> simp [strE, strCell] at hu <;> subst hu <;> go_simp) (by first | omega | (simp; omega)) (by first | omega | (simp; try omega)) ?_); intro v9 w9 hown9 hg9 hat9; obtain ⟨A9, n9, c9, rfl⟩ := Owns.form3 hown9; have bx9 := (SpBox.alloc op6 _).grown hg9 hne; obtain ⟨z0, z1, z2, z3, z4⟩ := bx9.cells; have lz := bx9.lt; have f0 := bx9.frozen 2)
                    have hbz : Below (wA.heap.size + 1) wq w9 := ((hbp.trans (h46.mono (by omega))).alloc (by omega) _).grown hg9 (by simp; omega) (fun g hg => by have := (Owns.within ho9 hg).1; omega)
                    have hbs := hbz.setCell (p := ⟨wA.heap.size + 1, 2, none⟩) (by simp) (.slice A9 n9 c9)
                    have fps := ((fp6.alloc (.cells #[.string pk] 9)).step 2 rfl hown9 hg9 hat9).setOther (b := wA.heap.size + 1) (o := 2) (.slice A9 n9 c9) (by omega)
                    have bxs := bx9.set2 (.slice A9 n9 c9)
                    have hzs : (w9.setCell ⟨wA.heap.size + 1, 2, none⟩ (.slice A9 n9 c9)).heap.size = w9.heap.size := by simp
                    have hz9 := hg9.size
                    have rs := RowAt.keepAt (w' := w9.setCell ⟨wA.heap.size + 1, 2, none⟩ (.slice A9 n9 c9)) (B' := w9.heap.size) hK.out (by simp at hz9; omega) (fun b off o e => by
                      have hb := hg6 b off e
                      obtain ⟨b', off', e', hb', _⟩ := hK.out.2.2 (by omega)
                      rw [e] at e'
                      simp only [Option.some.injEq, Addr.mk.injEq] at e'
                      rw [World.cell?_setCell_other _ _ _ _ (fun e => by simp only [Addr.mk.injEq] at e; omega), World.cell?_of_block (hg9.block b (by simp; omega) (fun e => by have := (hin8 b e.symm).2; omega)), World.cell?_alloc_lt _ _ _ (by show b < _; omega)])
                    clear z0 z1 z2 z3 z4 y0 y1 y2 y3 y4 hbz f0 bx9 ho9 hne hown9 hat9 hg9 lz ly
                    generalize w9.setCell ⟨wA.heap.size + 1, 2, none⟩ (.slice A9 n9 c9) = ws at hbs fps bxs hzs rs ⊢
                    obtain ⟨z0, z1, z2, z3, z4⟩ := bxs.cells
                    have lz := bxs.lt
                    have ho8 := fps.own 4 _ _ rfl rfl
                    have hne8 := Owns.ne_box ho8 (b := wA.heap.size + 1) (by omega)
                    go_wp2_with (at_builtin; go_must (refine Elem.wpList_row strE rfl (.tmp 92) (.tmp 93) rfl (wA.heap.size + 2) _ _ rfl A6 m9 c6 _ rfl ho8 _ rs (by first | omega | (simp; omega)) (by omega) ?_); intro v8 w8 hown8 hg8 hat8; obtain ⟨A7, n7, c7, rfl⟩ := Owns.form3 hown8; have bx8 := bxs.grown hg8 hne8; obtain ⟨s0, s1, s2, s3, s4⟩ := bx8.cells; have lz8 := bx8.lt; have f8 := bx8.frozen 4)
                    have hb8 : Below (wA.heap.size + 1) wq w8 := hbs.grown hg8 (by omega) (fun g hg => by have := (Owns.within ho8 hg).1; omega)
                    go_roundw
                    case rel => exact ⟨q + 1, _, a3, _, by omega, by go_num, bx8.set4 _, by rw [e2.out, e3.out, e4.out]; exact (fps.step 4 rfl hown8 hg8 hat8).setOther (b := wA.heap.size + 1) (o := 4) _ (by omega), hb8.setCell (p := ⟨wA.heap.size + 1, 4, none⟩) (by simp) _⟩
                    case measure => simp [intOf]; omega
              · obtain rfl : q = m := by omega
                have htk : PL.take q = PL := List.take_of_length_le (by have := hml.out; omega)
                rw [htk] at fp
                replace htk := Lib.hid htk
                have hch : Below w1.heap.size w1 wp := hchq.trans (hbp.mono (by omega))
                obtain ⟨A0, n0, c0, rfl⟩ := Owns.form3 (fp.own 0 _ _ rfl rfl)
                obtain ⟨A1, n1, c1, rfl⟩ := Owns.form3 (fp.own 1 _ _ rfl rfl)
                obtain ⟨A2, n2, c2, rfl⟩ := Owns.form3 (fp.own 2 _ _ rfl rfl)
                obtain ⟨A3, n3, c3, rfl⟩ := Owns.form3 (fp.own 3 _ _ rfl rfl)
                obtain ⟨A4, n4, c4, rfl⟩ := Owns.form3 (fp.own 4 _ _ rfl rfl)
                have ho4 := fp.own 4 _ _ rfl rfl
                have hl4 : (movedL ⟨k, nn, next, sn, cs, ps⟩ L PL).length ≤ 1000000 := by
                  have h1 := movedL_len (s := ⟨k, nn, next, sn, cs, ps⟩) (L := L) hm.out PL
                  have h2 := hml.out
                  omega
                obtain ⟨y0, y1, y2, y3, y4⟩ := op.cells
                have ly := op.lt
                go_wp2_with fail
                refine (sort_strs ho4 hnd.out hl4).mono ?_
                rintro e w4 ⟨rfl, hos, hgs⟩
                have hws := hgs.size
                have ops := op.grown hgs (Owns.ne_box ho4 (by omega))
                have fps := fp.step 4 rfl hos hgs (.inl rfl)
                have hcs : Below w1.heap.size w1 w4 := hch.grown hgs (by omega) (fun g hg => by have := (Owns.within ho4 hg).1; omega)
                have rbs := rbx.out.below (by omega) hcs
                have hend : Below w.heap.size w w4 := fw.trans (hcs.mono (by omega))
                clear y0 y1 y2 y3 y4 ly ho4 hos hgs
                obtain ⟨y0, y1, y2, y3, y4⟩ := ops.cells
                have ly := ops.lt
                obtain ⟨r0, r1, r2, r3, r4⟩ := rbs.cells
                have rlt := rbs.lt
                have e0 := rbs.frozen 0
                have e1 := rbs.frozen 1
                have e2 := rbs.frozen 2
                have e3 := rbs.frozen 3
                have e4 := rbs.frozen 4
                go_wp2_with fail
                exact bodyPost_ret (v := .tuple #[.agg #[.slice A0 n0 c0, .slice A1 n1 c1, .slice A2 n2 c2, .slice A3 n3 c3, .slice A4 n4 c4], .int .i64 0]) (by rw [results_cell_tmp Tryz.results29]; simp [go_sem, r0, r1, r2, r3, r4]) rfl
                  ⟨_, _, _, _, _, by rw [hres.out], by
                    rw [hres.out]
                    unfold markSp
                    rw [← hPL.out]
                    exact (((((fps.setOther (b := w.heap.size + 1) (o := 0) _ (by omega)).setOther (b := w.heap.size + 1) (o := 1) _ (by omega)).setOther (b := w.heap.size + 1) (o := 2) _ (by omega)).setOther (b := w.heap.size + 1) (o := 3) _ (by omega)).setOther (b := w.heap.size + 1) (o := 4) _ (by omega)).from (by omega),
                  ((((hend.setCell (p := ⟨w.heap.size + 1, 0, none⟩) (by simp) _).setCell (p := ⟨w.heap.size + 1, 1, none⟩) (by simp) _).setCell (p := ⟨w.heap.size + 1, 2, none⟩) (by simp) _).setCell (p := ⟨w.heap.size + 1, 3, none⟩) (by simp) _).setCell (p := ⟨w.heap.size + 1, 4, none⟩) (by simp) _⟩
end Go.Proofs.YtdhlmhkabckbaaaGreatDoor
