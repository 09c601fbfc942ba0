/-
  The walk of MarkPacks. (Open: up to the map of what is asked for.)
-/
import Derived.Test.YtcepdigeimedoaaPacksL
import Derived.Test.YtcepdigeimedoaaMoreA
import Derived.Test.YtcepdigeimedoaaMarkG
import Derived.Deep.DeepCutAuto
namespace Go.Proofs.Ytcepdigeimedoaa
open Go.RowKit
attribute [local go_sem ↓] Go.wp_at_zero Go.wp_at_succ

section
open Go.Maps Go.Sort Go.Shelf
variable {w : World} {b : Nat} {L : List ByteArray} {s : ByteArray}
/-- What a lookup's run gives. -/
theorem CntAt.look (h : CntAt w b L) (hs : s.size ≤ maxLen) : (Instr.lookup 85 (.map (some b)) (.string s) false).run Try.prog w = .ok (.int .i64 (L.count s : Nat)) w := by
  obtain ⟨h0, D, h1, h2, h3⟩ := h
  obtain ⟨c, hrun, hat, _⟩ := h1.lookup_int strKeyed Try.underlying85 Try.underlying3 (zeroInt _) (Go.WideMaps.keyOf_string_mk Try.underlying9 hs)
  rw [h3] at hat
  simp at hat
  subst hat
  exact hrun
theorem OneAt.look (h : OneAt w b L) (hs : s.size ≤ maxLen) : (Instr.lookup 85 (.map (some b)) (.string s) false).run Try.prog w = .ok (.int .i64 (if s ∈ L then 1 else 0)) w := by
  obtain ⟨h0, D, h1, h2, h3⟩ := h
  obtain ⟨c, hrun, hat, _⟩ := h1.lookup_int strKeyed Try.underlying85 Try.underlying3 (zeroInt _) (Go.WideMaps.keyOf_string_mk Try.underlying9 hs)
  rw [h3] at hat
  have e : c = if s ∈ L then 1 else 0 := by split at hat <;> simp at hat <;> simp [*]
  rw [← e]
  exact hrun
theorem CntAt.drewN (h : CntAt w b L) (q : Nat) : CntAt (w.drewN q) b L := h
theorem OneAt.yes (h : OneAt w b L) (hs : s.size ≤ maxLen) (hm : s ∈ L) : (Instr.lookup 85 (.map (some b)) (.string s) false).run Try.prog w = .ok (.int .i64 1) w := by rw [h.look hs, if_pos hm]
theorem OneAt.no (h : OneAt w b L) (hs : s.size ≤ maxLen) (hm : s ∉ L) : (Instr.lookup 85 (.map (some b)) (.string s) false).run Try.prog w = .ok (.int .i64 0) w := by rw [h.look hs, if_neg hm]
/-- A number above 0. -/
theorem CntAt.yes (h : CntAt w b L) (hs : s.size ≤ maxLen) (hm : s ∈ L) : ∃ c : Nat, (∀ q, (Instr.lookup 85 (.map (some b)) (.string s) false).run Try.prog (w.drewN q) = .ok (.int .i64 c) (w.drewN q)) ∧ (Instr.lookup 85 (.map (some b)) (.string s) false).run Try.prog w = .ok (.int .i64 c) w ∧
    decide ((0 : Int) < (c : Int)) = true ∧ decide (0 < c) = true ∧ ((c : Int) == 0) = false ∧ decide ((c : Int) = 0) = false := by
  have := List.count_pos_iff.2 hm
  refine ⟨L.count s, fun q => (h.drewN q).look hs, h.look hs, ?_, ?_, ?_, ?_⟩
  · exact decide_eq_true (by omega)
  · exact decide_eq_true (by omega)
  · exact beq_false_of_ne (by omega)
  · exact decide_eq_false (by omega)
theorem CntAt.no (h : CntAt w b L) (hs : s.size ≤ maxLen) (hm : s ∉ L) : (∀ q, (Instr.lookup 85 (.map (some b)) (.string s) false).run Try.prog (w.drewN q) = .ok (.int .i64 0) (w.drewN q)) ∧ (Instr.lookup 85 (.map (some b)) (.string s) false).run Try.prog w = .ok (.int .i64 0) w := by
  have e : L.count s = 0 := List.count_eq_zero.2 hm
  constructor
  · intro q
    have := (h.drewN q).look hs
    rw [e] at this
    exact this
  · have := h.look hs
    rw [e] at this
    exact this
end

theorem below_drawn {B : Nat} {w0 w : World} (h : Below B w0 w) (q : Nat) : Below B w0 (w.drewN q) := ⟨h.os, h.tape, h.output, h.size, h.block⟩
theorem rise_step {l : List ByteArray} (h : RiseS l) {i : Nat} {x y : ByteArray} (hx : l[i]? = some x) (hy : l[i + 1]? = some y) : sLt x y = true := by
  obtain ⟨h1, rfl⟩ := List.getElem?_eq_some_iff.1 hx
  obtain ⟨h2, rfl⟩ := List.getElem?_eq_some_iff.1 hy
  exact List.pairwise_iff_getElem.1 h i (i + 1) h1 h2 (by omega)
theorem out_dead {s : St} {L : List ByteArray} {p : ByteArray} (hm : mayIdx s.cs s.ps = true) {k : Nat} (hk : (s.cs.zip s.ps).length ≤ k) (hp : p ∈ packsL s) (hd : deadP s L p = true) : p ∉ inPk s L k ∧ p ∈ outPk s L k := by
  have h1 := dead_in (p := p) (L := L) hm hk
  rw [hd] at h1
  have h2 : p ∉ inPk s L k := by simpa using h1
  refine ⟨h2, (outPk_all hm hk).2 fun e => ?_⟩
  have h3 : (keptD s L p).length = 0 := Decidable.byContradiction fun h => h2 ((inPk_all hm hk).2 h)
  rw [h3] at e
  exact inD_ne hm hp (List.eq_nil_of_length_eq_zero e.symm)
theorem out_stale {s : St} {L : List ByteArray} {p : ByteArray} (hm : mayIdx s.cs s.ps = true) {k : Nat} (hk : (s.cs.zip s.ps).length ≤ k) (hd : staleP s L p = true) : p ∈ inPk s L k ∧ p ∈ outPk s L k := by
  have h1 := stale_in (p := p) (L := L) hm hk
  rw [hd] at h1
  simpa using h1

set_option maxHeartbeats 16000000 in
set_option maxRecDepth 100000 in
theorem markPacks_walk (v : Rws) (s : St) (A : Option Addr) (n c : Nat) (L : List ByteArray) (w : World) (h : StAt w w.heap.size v s) (hL : StrsAt w w.heap.size A n L) (hLs : ∀ x ∈ L, x.size ≤ maxLen) :
    Calls Try.prog 12 #[v.val s, .slice A n c] w fun e w' => e = .returned (.bool true) ∧ Below w.heap.size w w' := by
  have hst := Lib.hid h
  have h1 := fun W hs hl (hn : n ≤ 100000) => mark_Of v s A n c L W hs hl hLs hn
  have hres : (mayIdx s.cs s.ps = false ∧ markRes s L = (⟨[], [], [], [], []⟩, 4)) ∨ (mayIdx s.cs s.ps = true ∧ markRes s L = (markSp s L, 0)) := by
    cases hm : mayIdx s.cs s.ps
    · exact .inl ⟨rfl, markRes_no hm⟩
    · exact .inr ⟨rfl, markRes_ok hm⟩
  have lLn := Lib.hid hL.1
  obtain ⟨⟨⟨l0, l1, l2, l3, l4⟩, z⟩, hz⟩ : ∃ x, x = markRes s L := ⟨_, rfl⟩
  rw [← hz] at h1 hres
  clear hz
  obtain ⟨k, nn, next, sn, cs, ps⟩ := s
  obtain ⟨V1, v1, q1, V2, v2, q2, V3, v3, q3⟩ := v
  unfold Rws.val stv at h1
  unfold Rws.val stv
  dsimp only [Sp.lists] at h1 hres ⊢
  have bs := Lib.hid (BoxAt.new w k nn next (.slice V1 v1 q1) (.slice V2 v2 q2) (.slice V3 v3 q3))
  have fw : Below w.heap.size w (w.alloc (.cells #[.int .i64 k, .int .i64 nn, .int .i64 next, .slice V1 v1 q1, .slice V2 v2 q2, .slice V3 v3 q3] 71)) := (Below.refl _ _).alloc (Nat.le_refl _) _
  have sst := Lib.hid (hst.out.to fw)
  have rL := Lib.hid (hL.to fw)
  replace h1 := Lib.hid h1
  replace hres := Lib.hid hres
  clear h hst hL
  go_enter Try.func12, Try.ntmps12
  go_upto_region 1 with fail
  generalize w.alloc (.cells #[.int .i64 k, .int .i64 nn, .int .i64 next, .slice V1 v1 q1, .slice V2 v2 q2, .slice V3 v3 q3] 71) = w0 at bs fw sst rL ⊢
  obtain ⟨x0, x1, x2, x3, x4, x5⟩ := bs.out.cells
  by_cases hbig : 450 < v2 ∨ 450 < v3 ∨ 500 < n
  · by_cases b0 : 450 < v2
    · have s0 : decide ((450 : Int) < (v2 : Int)) = true := by simp; omega
      go_wp2_with fail
      refine (law24_awake _).mono ?_
      rintro e w1 ⟨rfl, hb1⟩
      go_wp2_with fail
      go_ret
      exact ⟨rfl, fw.trans (hb1.mono fw.size)⟩
    · have s0 : decide ((450 : Int) < (v2 : Int)) = false := by simp; omega
      by_cases b1 : 450 < v3
      · have s1 : decide ((450 : Int) < (v3 : Int)) = true := by simp; omega
        go_wp2_with fail
        refine (law24_awake _).mono ?_
        rintro e w1 ⟨rfl, hb1⟩
        go_wp2_with fail
        go_ret
        exact ⟨rfl, fw.trans (hb1.mono fw.size)⟩
      · have s1 : decide ((450 : Int) < (v3 : Int)) = false := by simp; omega
        have s2 : decide ((500 : Int) < (n : Int)) = true := by simp; omega
        go_wp2_with fail
        refine (law24_awake _).mono ?_
        rintro e w1 ⟨rfl, hb1⟩
        go_wp2_with fail
        go_ret
        exact ⟨rfl, fw.trans (hb1.mono fw.size)⟩
  have s0 : decide ((450 : Int) < (v2 : Int)) = false := by simp; omega
  have s1 : decide ((450 : Int) < (v3 : Int)) = false := by simp; omega
  have s2 : decide ((500 : Int) < (n : Int)) = false := by simp; omega
  have hn : n ≤ 500 := by omega
  go_wp2_with fail
  refine (law24_awake _).mono ?_
  rintro e w1 ⟨rfl, hb1⟩
  replace bs := Lib.hid (bs.out.below hb1)
  replace sst := Lib.hid (sst.out.to hb1)
  replace rL := Lib.hid (rL.out.to hb1)
  replace fw := fw.trans (hb1.mono fw.size)
  clear x0 x1 x2 x3 x4 x5
  obtain ⟨x0, x1, x2, x3, x4, x5⟩ := bs.out.cells
  go_wp2_with fail
  refine (h1.out w1 sst.out rL.out (by omega)).mono ?_
  rintro e w2 ⟨a0, a1, a2, a3, a4, rfl, fa, hb2⟩
  obtain ⟨A0, n0, c0, rfl⟩ := Owns.form3 (fa.own 0 _ _ rfl rfl)
  obtain ⟨A1, n1, c1, rfl⟩ := Owns.form3 (fa.own 1 _ _ rfl rfl)
  obtain ⟨A2, n2, c2, rfl⟩ := Owns.form3 (fa.own 2 _ _ rfl rfl)
  obtain ⟨A3, n3, c3, rfl⟩ := Owns.form3 (fa.own 3 _ _ rfl rfl)
  obtain ⟨A4, n4, c4, rfl⟩ := Owns.form3 (fa.own 4 _ _ rfl rfl)
  have hz2 := hb2.size
  clear x0 x1 x2 x3 x4 x5
  go_upto_region 4 with fail
  have bax := SpBox.new 73 w2 (.slice A0 n0 c0) (.slice A1 n1 c1) (.slice A2 n2 c2) (.slice A3 n3 c3) (.slice A4 n4 c4)
  have hf2 : Below w2.heap.size w2 (w2.alloc (.cells #[.slice A0 n0 c0, .slice A1 n1 c1, .slice A2 n2 c2, .slice A3 n3 c3, .slice A4 n4 c4] 73)) := (Below.refl _ _).alloc (Nat.le_refl _) _
  have hbx : Below w1.heap.size w1 (w2.alloc (.cells #[.slice A0 n0 c0, .slice A1 n1 c1, .slice A2 n2 c2, .slice A3 n3 c3, .slice A4 n4 c4] 73)) := hb2.trans (hf2.mono hz2)
  generalize w2.alloc (.cells #[.slice A0 n0 c0, .slice A1 n1 c1, .slice A2 n2 c2, .slice A3 n3 c3, .slice A4 n4 c4] 73) = w4 at bax hf2 hbx ⊢
  replace bs := Lib.hid (bs.out.below hbx)
  replace sst := Lib.hid (sst.out.to hbx)
  replace rL := Lib.hid (rL.out.to hbx)
  replace fw := fw.trans (hbx.mono fw.size)
  have rp0 := Lib.hid (((fa.own 0 _ _ rfl rfl).row strCell_len).to hf2)
  have rp1 := Lib.hid (((fa.own 1 _ _ rfl rfl).row strCell_len).to hf2)
  have rp2 := Lib.hid (((fa.own 2 _ _ rfl rfl).row strCell_len).to hf2)
  have rp3 := Lib.hid (((fa.own 3 _ _ rfl rfl).row strCell_len).to hf2)
  have rp4 := Lib.hid (((fa.own 4 _ _ rfl rfl).row strCell_len).to hf2)
  replace bax := Lib.hid bax
  clear fa hb2 hbx
  obtain ⟨x0, x1, x2, x3, x4, x5⟩ := bs.out.cells
  obtain ⟨ga0, ga1, ga2, ga3, ga4⟩ := bax.out.cells
  rcases hres.out with ⟨hm, he⟩ | ⟨hm, he⟩
  · simp only [Prod.mk.injEq, Sp.mk.injEq] at he
    obtain ⟨⟨rfl, rfl, rfl, rfl, rfl⟩, rfl⟩ := he
    obtain rfl : n0 = 0 := rp0.out.1.symm
    obtain rfl : n1 = 0 := rp1.out.1.symm
    obtain rfl : n2 = 0 := rp2.out.1.symm
    obtain rfl : n3 = 0 := rp3.out.1.symm
    obtain rfl : n4 = 0 := rp4.out.1.symm
    replace hm := Lib.hid hm
    go_wp2_with fail
    go_ret
    exact ⟨rfl, fw⟩
  obtain ⟨hX, rfl⟩ := Prod.mk.inj he
  clear he hres
  have hmm := @run_makeMap Try.prog
  go_upto_region 7 with fail
  clear x0 x1 x2 x3 x4 x5 ga0 ga1 ga2 ga3 ga4
  have hfm : Below w4.heap.size w4 (w4.alloc (.map #[] 0)) := (Below.refl _ _).alloc (Nat.le_refl _) _
  have hone0 := OneAt.made w4
  go_wp2_with fail
  go_loopw [8] (fun i wr => ∃ j : Nat, j ≤ n ∧ i = .int .i64 j ∧ OneAt wr w4.heap.size (L.take j) ∧ Below w4.heap.size w4 wr) (fun i _ => n - (intOf i).toNat)
  case atStart => exact ⟨0, Nat.zero_le _, rfl, by simpa using hone0, hfm⟩
  case round =>
    obtain ⟨j, hj, rfl, hone, hbr⟩ := hrel
    obtain ⟨wj, rfl⟩ : ∃ x : World, x = wr := ⟨_, rfl⟩
    by_cases hlt : j < n
    · obtain ⟨b0, off, d, rfl, hb0, hx, q0⟩ := (rL.out.to hbr).str hlt
      have hsz := Lib.hid (hLs d (List.mem_of_getElem? hx))
      have htk : Hid (L.take (j + 1) = L.take j ++ [d]) := by unfold Hid; rw [List.take_add_one, hx]; simp
      have hlen : (L.take j).length < 1000000000 := by simp; omega
      replace hx := Lib.hid hx
      replace hlen := Lib.hid hlen
      go_wp2_with (at_mapUpdate; go_must (refine wpList_one_update _ rfl _ _ _ rfl w4.heap.size _ rfl hone hlen.out d rfl hsz.out rfl ?_); intro w5 hone5 hg5)
      go_roundw
      case rel => exact ⟨j + 1, by omega, by go_num, by rw [htk.out]; exact hone5, hbr.grown hg5 hbr.size (fun _ hi => by cases hi; exact Nat.le_refl _)⟩
      case measure => simp [intOf]; omega
    · obtain rfl : j = n := by omega
      have htk : L.take j = L := List.take_of_length_le (by have := lLn.out; omega)
      rw [htk] at hone
      replace htk := Lib.hid htk
      go_upto_region 12 with fail
      have hm9 : Below wj.heap.size wj ((wj.alloc (.map #[] 0)).alloc (.map #[] 0)) := ((Below.refl _ _).alloc (Nat.le_refl _) _).alloc (by simp) _
      have hci0 : CntAt ((wj.alloc (.map #[] 0)).alloc (.map #[] 0)) wj.heap.size [] := (CntAt.made wj).alloc _
      have hco0 : CntAt ((wj.alloc (.map #[] 0)).alloc (.map #[] 0)) (wj.heap.size + 1) [] := by simpa using CntAt.made (wj.alloc (.map #[] 0))
      have hsz9 : wj.heap.size + 2 ≤ ((wj.alloc (.map #[] 0)).alloc (.map #[] 0)).heap.size := by simp
      generalize (wj.alloc (.map #[] 0)).alloc (.map #[] 0) = w9 at hm9 hci0 hco0 hsz9 ⊢
      have h49 : Below w4.heap.size w4 w9 := hbr.trans (hm9.mono hbr.size)
      have hpz' := Lib.hid (fun p hp => mayPlace_pack (mayIdx_places hm p hp))
      have hcz := Lib.hid (chunk_size (s := ⟨k, nn, next, sn, cs, ps⟩) hm)
      have hlv := Lib.hid (mayIdx_len hm)
      go_wp2_with fail
      go_loopw [11] (fun i wr => ∃ j2 : Nat, j2 ≤ v2 ∧ i = .int .i64 j2 ∧ CntAt wr wj.heap.size (inPk ⟨k, nn, next, sn, cs, ps⟩ L j2) ∧ CntAt wr (wj.heap.size + 1) (outPk ⟨k, nn, next, sn, cs, ps⟩ L j2) ∧ wj.heap.size + 2 ≤ wr.heap.size ∧ Below wj.heap.size wj wr) (fun i _ => v2 - (intOf i).toNat)
      case atStart => exact ⟨0, Nat.zero_le _, rfl, by simpa [inPk] using hci0, by simpa [outPk] using hco0, hsz9, hm9⟩
      case round =>
        obtain ⟨j2, hj2, rfl, hci, hco, hz2, hb2⟩ := hrel
        obtain ⟨wr2, rfl⟩ : ∃ x : World, x = wr := ⟨_, rfl⟩
        have h4r : Below w4.heap.size w4 wr2 := hbr.trans (hb2.mono hbr.size)
        have hon := hone.below hb2
        obtain ⟨x0, x1, x2, x3, x4, x5⟩ := (bs.out.below h4r).cells
        by_cases hlt2 : j2 < v2
        · have hji : (j2 : Int) < (v2 : Int) := by omega
          obtain ⟨d, hxc⟩ := getElem_some (l := cs) (i := j2) (by have := sst.out.cs.1; dsimp only at this; omega)
          obtain ⟨q, hxp⟩ := getElem_some (l := ps) (i := j2) (by have := sst.out.cs.1; have := hlv.out.1; dsimp only at *; omega)
          have hcV := (sst.out.to h4r).cs
          have hpV := (sst.out.to h4r).ps
          dsimp only at hcV hpV
          have hj3 : j2 < v3 := by have := hpV.1; have := (List.getElem?_eq_some_iff.1 hxp).1; omega
          have hj3i : (j2 : Int) < (v3 : Int) := by omega
          obtain ⟨b8, o8, hA8, hb8⟩ := hcV.addrOf hlt2
          obtain ⟨b9, o9, hA9, hb9⟩ := hpV.addrOf hj3
          subst hA8
          subst hA9
          have y8 := hcV.strAt hxc
          obtain ⟨p0, p1, p2⟩ := hpV.placeAt hxp
          have hsz := Lib.hid (hcz.out d (List.mem_of_getElem? hxc))
          have hpz : Hid (q.pack.size ≤ maxLen) := by unfold Hid; rw [hpz'.out q (List.mem_of_getElem? hxp)]; decide
          replace hcV := Lib.hid hcV
          replace hpV := Lib.hid hpV
          by_cases hin : d ∈ L
          · skip
            have hpk := pk_yes (s := ⟨k, nn, next, sn, cs, ps⟩) (L := L) hxc hxp hin
            have hlen9 : (inPk ⟨k, nn, next, sn, cs, ps⟩ L j2).length < 1000000000 := by have := pk_len (s := ⟨k, nn, next, sn, cs, ps⟩) (L := L) j2; omega
            replace hpk := Lib.hid hpk
            replace hxc := Lib.hid hxc
            replace hxp := Lib.hid hxp
            replace hlen9 := Lib.hid hlen9
            replace hin := Lib.hid hin
            go_wp2_with (first
              | (at_lookup; refine wpList_one_lookup _ rfl _ _ rfl w4.heap.size _ rfl hon d rfl hsz.out ?_; intro c9 hc9; rw [if_pos hin.out] at hc9; obtain rfl := hc9.out)
              | (at_lookup; refine wpList_cnt_lookup _ rfl _ _ rfl wj.heap.size _ rfl hci q.pack rfl hpz.out ?_; intro c hc9 hc)
              | (at_mapUpdate; go_must (refine wpList_cnt_update _ rfl _ _ _ rfl wj.heap.size _ rfl hci hlen9.out q.pack rfl hpz.out c hc rfl ?_); intro w6 hcn hg6))
            have hot := hco.kept hg6 (by simp)
            go_roundw
            case rel => exact ⟨j2 + 1, by omega, by go_num, by rw [hpk.out.1]; exact hcn, by rw [hpk.out.2]; exact hot, Nat.le_trans hz2 hg6.size, hb2.grown hg6 hb2.size (fun _ hi => by cases hi; omega)⟩
            case measure => simp [intOf]; omega
          · skip
            have hpk := pk_no (s := ⟨k, nn, next, sn, cs, ps⟩) (L := L) hxc hxp hin
            have hlen9 : (outPk ⟨k, nn, next, sn, cs, ps⟩ L j2).length < 1000000000 := by have := pk_len (s := ⟨k, nn, next, sn, cs, ps⟩) (L := L) j2; omega
            replace hpk := Lib.hid hpk
            replace hxc := Lib.hid hxc
            replace hxp := Lib.hid hxp
            replace hlen9 := Lib.hid hlen9
            replace hin := Lib.hid hin
            go_wp2_with (first
              | (at_lookup; refine wpList_one_lookup _ rfl _ _ rfl w4.heap.size _ rfl hon d rfl hsz.out ?_; intro c9 hc9; rw [if_neg hin.out] at hc9; obtain rfl := hc9.out)
              | (at_lookup; refine wpList_cnt_lookup _ rfl _ _ rfl (wj.heap.size + 1) _ rfl hco q.pack rfl hpz.out ?_; intro c hc9 hc)
              | (at_mapUpdate; go_must (refine wpList_cnt_update _ rfl _ _ _ rfl (wj.heap.size + 1) _ rfl hco hlen9.out q.pack rfl hpz.out c hc rfl ?_); intro w6 hcn hg6))
            have hot := hci.kept hg6 (by simp)
            go_roundw
            case rel => exact ⟨j2 + 1, by omega, by go_num, by rw [hpk.out.1]; exact hot, by rw [hpk.out.2]; exact hcn, Nat.le_trans hz2 hg6.size, hb2.grown hg6 hb2.size (fun _ hi => by cases hi; omega)⟩
            case measure => simp [intOf]; omega
        · obtain rfl : j2 = v2 := by omega
          have hzl : (cs.zip ps).length ≤ j2 := by rw [List.length_zip]; have := sst.out.cs.1; dsimp only at this; omega
          have hst9 := Lib.hid (fun p => stale_in (s := ⟨k, nn, next, sn, cs, ps⟩) (L := L) (p := p) hm hzl)
          have hdd9 := Lib.hid (fun p => dead_in (s := ⟨k, nn, next, sn, cs, ps⟩) (L := L) (p := p) hm hzl)
          replace hzl := Lib.hid hzl
          go_wp2_with fail
          clear x0 x1 x2 x3 x4 x5
          go_loopw [12, 13, 14, 15] (fun st dd mv i wr => ∃ (j a b m : Nat), j ≤ j2 ∧ i = .int .i64 j ∧ st = .int .i64 a ∧ dd = .int .i64 b ∧ mv = .int .i64 m ∧ a ≤ j ∧ b ≤ j ∧ m ≤ j ∧ Hid (a = ((uniq ((ps.take j).map Place.pack)).filter (staleP ⟨k, nn, next, sn, cs, ps⟩ L)).length) ∧ Hid (b = ((uniq ((ps.take j).map Place.pack)).filter (deadP ⟨k, nn, next, sn, cs, ps⟩ L)).length) ∧ Hid (m = mvC ⟨k, nn, next, sn, cs, ps⟩ L j) ∧ Below wr2.heap.size wr2 wr) (fun _ _ _ i _ => j2 - (intOf i).toNat)
          case atStart => exact ⟨0, 0, 0, 0, Nat.zero_le _, rfl, rfl, rfl, rfl, by omega, by omega, by omega, by simp [Hid, uniq], by simp [Hid, uniq], by simp [Hid, mvC], Below.refl _ _⟩
          case round =>
            obtain ⟨j, a, b, m, hj3, rfl, rfl, rfl, rfl, ha, hb, hmj, hae, hbe, hme, hb3⟩ := hrel
            obtain ⟨wr3, rfl⟩ : ∃ x : World, x = wr := ⟨_, rfl⟩
            have h4s : Below w4.heap.size w4 wr3 := h4r.trans (hb3.mono h4r.size)
            have hon3 := hon.below hb3
            have hco3 := hco.below hb3
            have hci3 := hci.below hb3
            obtain ⟨x0, x1, x2, x3, x4, x5⟩ := (bs.out.below h4s).cells
            by_cases hlt3 : j < j2
            · have hji : (j : Int) < (j2 : Int) := by omega
              obtain ⟨d, hxc⟩ := getElem_some (l := cs) (i := j) (by have := sst.out.cs.1; dsimp only at this; omega)
              obtain ⟨q, hxp⟩ := getElem_some (l := ps) (i := j) (by have := sst.out.cs.1; have := hlv.out.1; dsimp only at *; omega)
              have hcV := (sst.out.to h4s).cs
              have hpV := (sst.out.to h4s).ps
              dsimp only at hcV hpV
              have hj3' : j < v3 := by have := hpV.1; have := (List.getElem?_eq_some_iff.1 hxp).1; omega
              have hj3i : (j : Int) < (v3 : Int) := by omega
              obtain ⟨b8, o8, hA8, hb8⟩ := hcV.addrOf hlt3
              obtain ⟨b9, o9, hA9, hb9⟩ := hpV.addrOf hj3'
              subst hA8
              subst hA9
              have y8 := hcV.strAt hxc
              obtain ⟨p0, p1, p2⟩ := hpV.placeAt hxp
              have hsz := Lib.hid (hcz.out d (List.mem_of_getElem? hxc))
              have hpz : Hid (q.pack.size ≤ maxLen) := by unfold Hid; rw [hpz'.out q (List.mem_of_getElem? hxp)]; decide
              have hmn := Lib.hid (mvC_next (s := ⟨k, nn, next, sn, cs, ps⟩) (L := L) hxc hxp)
              have hsn := Lib.hid (uniq_next (s := ⟨k, nn, next, sn, cs, ps⟩) hxp (staleP ⟨k, nn, next, sn, cs, ps⟩ L))
              have hdn := Lib.hid (uniq_next (s := ⟨k, nn, next, sn, cs, ps⟩) hxp (deadP ⟨k, nn, next, sn, cs, ps⟩ L))
              have hinq : Hid (d ∈ L → q.pack ∈ inPk ⟨k, nn, next, sn, cs, ps⟩ L j2) := by
                refine Lib.hid fun hd => List.mem_map.2 ⟨(d, q), List.mem_filter.2 ⟨?_, by simpa using hd⟩, rfl⟩
                rw [List.take_of_length_le hzl.out]
                exact List.mem_of_getElem? (zip_at (s := ⟨k, nn, next, sn, cs, ps⟩) hxc hxp)
              replace hcV := Lib.hid hcV
              replace hpV := Lib.hid hpV
              go_upto_region 23 with fail
              go_cut [142] (fun t wc => ∃ B : Bool, t = .bool B ∧ Hid (mvC ⟨k, nn, next, sn, cs, ps⟩ L (j + 1) = m + (if B = true then 1 else 0)) ∧ wc = wr3)
              case first =>
                have h00 : decide ((0 : Int) < 0) = false := rfl
                have h01 : decide ((0 : Int) < 1) = true := rfl
                by_cases hd : d ∈ L
                · have hr1 := hon3.yes hsz.out hd
                  by_cases ho : q.pack ∈ outPk ⟨k, nn, next, sn, cs, ps⟩ L j2
                  · have hm2 : Hid (mvC ⟨k, nn, next, sn, cs, ps⟩ L (j + 1) = m + 1) := by unfold Hid; rw [hmn.out, if_pos ⟨hd, by rw [hst9.out]; simp [ho, hinq.out hd]⟩, ← hme.out]
                    obtain ⟨co, _, hr2, g1, g2, g3, g4⟩ := hco3.yes hpz.out ho
                    replace hd := Lib.hid hd
                    replace ho := Lib.hid ho
                    go_wp2_with fail
                    go_meet
                    exact ⟨true, rfl, hm2, rfl⟩
                  · have hm2 : Hid (mvC ⟨k, nn, next, sn, cs, ps⟩ L (j + 1) = m + 0) := by unfold Hid; rw [hmn.out, if_neg (fun hh => by have h8 := hh.2; rw [hst9.out] at h8; simp [ho] at h8), ← hme.out]
                    obtain ⟨_, hr2⟩ := hco3.no hpz.out ho
                    replace hd := Lib.hid hd
                    replace ho := Lib.hid ho
                    go_wp2_with fail
                    go_meet
                    exact ⟨false, rfl, hm2, rfl⟩
                · have hm2 : Hid (mvC ⟨k, nn, next, sn, cs, ps⟩ L (j + 1) = m + 0) := by unfold Hid; rw [hmn.out, if_neg (fun hh => hd hh.1), ← hme.out]
                  have hr1 := hon3.no hsz.out hd
                  replace hd := Lib.hid hd
                  go_wp2_with fail
                  go_meet
                  exact ⟨false, rfl, hm2, rfl⟩
              case rest =>
              obtain ⟨B, rfl, hB, rfl⟩ := hcut
              obtain ⟨wd, rfl⟩ : ∃ x : World, x = wc := ⟨_, rfl⟩
              go_upto_if 142 with fail
              go_cut [14] (fun mv wc => ∃ m2 : Nat, mv = .int .i64 m2 ∧ m2 ≤ j + 1 ∧ Hid (m2 = mvC ⟨k, nn, next, sn, cs, ps⟩ L (j + 1)) ∧ wc = wd)
              case first =>
                cases B
                · go_wp2_with fail
                  go_meet
                  exact ⟨m, rfl, by omega, hB.out.symm, rfl⟩
                · go_wp2_with fail
                  go_meet
                  exact ⟨m + 1, by go_num, by omega, hB.out.symm, rfl⟩
              case rest =>
              obtain ⟨m2, rfl, hm2l, hm2, hwd⟩ := hcut
              obtain ⟨we, rfl⟩ : ∃ x : World, x = wc := ⟨_, rfl⟩
              subst hwd
              clear hB hmn
              go_wp2_with fail
              go_loopw [17, 18] (fun fi kk wr => ∃ kn : Nat, kn ≤ j ∧ kk = .int .i64 kn ∧ ∃ F : Bool, fi = .bool F ∧ Hid (F = decide (q.pack ∉ (ps.take kn).map Place.pack)) ∧ wr = we) (fun _ kk _ => j - (intOf kk).toNat)
              case atStart => exact ⟨0, Nat.zero_le _, rfl, true, rfl, by simp [Hid], rfl⟩
              case round =>
                obtain ⟨kn, hkn, rfl, F, rfl, hF, hwe⟩ := hrel
                obtain ⟨wf, rfl⟩ : ∃ x : World, x = wr := ⟨_, rfl⟩
                subst hwe
                by_cases hlt4 : kn < j
                · have hkj : (kn : Int) < (j : Int) := by omega
                  have hkv : (kn : Int) < (v3 : Int) := by omega
                  have hkv' : kn < v3 := by omega
                  obtain ⟨q2, hxq⟩ := getElem_some (l := ps) (i := kn) (by have := hpV.out.1; omega)
                  obtain ⟨r0, r1, r2⟩ := hpV.out.placeAt hxq
                  have hnx : (ps.take (kn + 1)).map Place.pack = (ps.take kn).map Place.pack ++ [q2.pack] := by rw [List.take_add_one, hxq]; simp
                  by_cases hq : q2.pack = q.pack
                  · have hF2 : Hid (false = decide (q.pack ∉ (ps.take (kn + 1)).map Place.pack)) := by unfold Hid; rw [hnx, hq]; simp
                    have hs := str_eq hq
                    replace hq := Lib.hid hq
                    replace hnx := Lib.hid hnx
                    replace hxq := Lib.hid hxq
                    replace hxc := Lib.hid hxc
                    replace hxp := Lib.hid hxp
                    cases F
                    · go_wp2_with fail
                      go_roundw
                      case rel => exact ⟨kn + 1, by omega, by go_num, false, rfl, hF2, trivial⟩
                      case measure => simp [intOf]; omega
                    · go_wp2_with fail
                      go_roundw
                      case rel => exact ⟨kn + 1, by omega, by go_num, false, rfl, hF2, trivial⟩
                      case measure => simp [intOf]; omega
                  · have hF2 : Hid (F = decide (q.pack ∉ (ps.take (kn + 1)).map Place.pack)) := by unfold Hid; rw [hnx, hF.out]; simp [Ne.symm hq]
                    have hs := str_ne hq
                    replace hq := Lib.hid hq
                    replace hnx := Lib.hid hnx
                    replace hxq := Lib.hid hxq
                    replace hxc := Lib.hid hxc
                    replace hxp := Lib.hid hxp
                    cases F
                    · go_wp2_with fail
                      go_roundw
                      case rel => exact ⟨kn + 1, by omega, by go_num, false, rfl, hF2, trivial⟩
                      case measure => simp [intOf]; omega
                    · go_wp2_with fail
                      go_roundw
                      case rel => exact ⟨kn + 1, by omega, by go_num, true, rfl, hF2, trivial⟩
                      case measure => simp [intOf]; omega
                · obtain rfl : kn = j := by omega
                  have h00 : decide ((0 : Int) < 0) = false := rfl
                  have h02 : ((0 : Int) == 0) = true := rfl
                  have hB30 : Hid (((uniq ((ps.take (kn + 1)).map Place.pack)).filter (staleP ⟨k, nn, next, sn, cs, ps⟩ L)).length = a + (if (F && (decide (q.pack ∈ inPk ⟨k, nn, next, sn, cs, ps⟩ L j2) && decide (q.pack ∈ outPk ⟨k, nn, next, sn, cs, ps⟩ L j2))) = true then 1 else 0)) := by unfold Hid; rw [hsn.out, ← hae.out, hst9.out, hF.out]; simp
                  have hB32 : Hid (((uniq ((ps.take (kn + 1)).map Place.pack)).filter (deadP ⟨k, nn, next, sn, cs, ps⟩ L)).length = b + (if (F && !decide (q.pack ∈ inPk ⟨k, nn, next, sn, cs, ps⟩ L j2)) = true then 1 else 0)) := by unfold Hid; rw [hdn.out, ← hbe.out, hdd9.out, hF.out]; simp
                  replace hxc := Lib.hid hxc
                  replace hxp := Lib.hid hxp
                  clear hsn hdn hF hae hbe
                  go_upto_region 30 with fail
                  go_cut [173] (fun t wc => ∃ B : Bool, t = .bool B ∧ Hid (((uniq ((ps.take (kn + 1)).map Place.pack)).filter (staleP ⟨k, nn, next, sn, cs, ps⟩ L)).length = a + (if B = true then 1 else 0)) ∧ wc = wf)
                  case first =>
                    cases F
                    · have hm2 : Hid (((uniq ((ps.take (kn + 1)).map Place.pack)).filter (staleP ⟨k, nn, next, sn, cs, ps⟩ L)).length = a + 0) := by have := hB30.out; unfold Hid; simpa using this
                      go_wp2_with fail
                      go_meet
                      exact ⟨false, rfl, hm2, rfl⟩
                    · by_cases ho : q.pack ∈ outPk ⟨k, nn, next, sn, cs, ps⟩ L j2
                      · obtain ⟨co, _, hr2, g1, g2, g3, g4⟩ := hco3.yes hpz.out ho
                        by_cases hi : q.pack ∈ inPk ⟨k, nn, next, sn, cs, ps⟩ L j2
                        · have hm2 : Hid (((uniq ((ps.take (kn + 1)).map Place.pack)).filter (staleP ⟨k, nn, next, sn, cs, ps⟩ L)).length = a + 1) := by have := hB30.out; unfold Hid; simpa [ho, hi] using this
                          obtain ⟨ci, _, hr3, f1, f2, f3, f4⟩ := hci3.yes hpz.out hi
                          replace ho := Lib.hid ho
                          replace hi := Lib.hid hi
                          go_wp2_with fail
                          go_meet
                          exact ⟨true, rfl, hm2, rfl⟩
                        · have hm2 : Hid (((uniq ((ps.take (kn + 1)).map Place.pack)).filter (staleP ⟨k, nn, next, sn, cs, ps⟩ L)).length = a + 0) := by have := hB30.out; unfold Hid; simpa [ho, hi] using this
                          obtain ⟨_, hr3⟩ := hci3.no hpz.out hi
                          replace ho := Lib.hid ho
                          replace hi := Lib.hid hi
                          go_wp2_with fail
                          go_meet
                          exact ⟨false, rfl, hm2, rfl⟩
                      · have hm2 : Hid (((uniq ((ps.take (kn + 1)).map Place.pack)).filter (staleP ⟨k, nn, next, sn, cs, ps⟩ L)).length = a + 0) := by have := hB30.out; unfold Hid; simpa [ho] using this
                        obtain ⟨_, hr2⟩ := hco3.no hpz.out ho
                        replace ho := Lib.hid ho
                        go_wp2_with fail
                        go_meet
                        exact ⟨false, rfl, hm2, rfl⟩
                  case rest =>
                  obtain ⟨B, rfl, hB, hwf⟩ := hcut
                  obtain ⟨wg, rfl⟩ : ∃ x : World, x = wc := ⟨_, rfl⟩
                  subst hwf
                  clear hB30
                  go_upto_if 173 with fail
                  go_cut [12] (fun st wc => ∃ a2 : Nat, st = .int .i64 a2 ∧ a2 ≤ kn + 1 ∧ Hid (a2 = ((uniq ((ps.take (kn + 1)).map Place.pack)).filter (staleP ⟨k, nn, next, sn, cs, ps⟩ L)).length) ∧ wc = wg)
                  case first =>
                    cases B
                    · go_wp2_with fail
                      go_meet
                      exact ⟨a, rfl, by omega, hB.out.symm, rfl⟩
                    · go_wp2_with fail
                      go_meet
                      exact ⟨a + 1, by go_num, by omega, hB.out.symm, rfl⟩
                  case rest =>
                  obtain ⟨a2, rfl, hal, hae, hwg⟩ := hcut
                  obtain ⟨wh, rfl⟩ : ∃ x : World, x = wc := ⟨_, rfl⟩
                  subst hwg
                  clear hB
                  go_upto_region 32 with fail
                  go_cut [182] (fun t wc => ∃ B : Bool, t = .bool B ∧ Hid (((uniq ((ps.take (kn + 1)).map Place.pack)).filter (deadP ⟨k, nn, next, sn, cs, ps⟩ L)).length = b + (if B = true then 1 else 0)) ∧ wc = wh)
                  case first =>
                    cases F
                    · have hm2 : Hid (((uniq ((ps.take (kn + 1)).map Place.pack)).filter (deadP ⟨k, nn, next, sn, cs, ps⟩ L)).length = b + 0) := by have := hB32.out; unfold Hid; simpa using this
                      go_wp2_with fail
                      go_meet
                      exact ⟨false, rfl, hm2, rfl⟩
                    · by_cases hi : q.pack ∈ inPk ⟨k, nn, next, sn, cs, ps⟩ L j2
                      · have hm2 : Hid (((uniq ((ps.take (kn + 1)).map Place.pack)).filter (deadP ⟨k, nn, next, sn, cs, ps⟩ L)).length = b + 0) := by have := hB32.out; unfold Hid; simpa [hi] using this
                        obtain ⟨ci, _, hr3, f1, f2, f3, f4⟩ := hci3.yes hpz.out hi
                        replace hi := Lib.hid hi
                        go_wp2_with fail
                        go_meet
                        exact ⟨false, rfl, hm2, rfl⟩
                      · have hm2 : Hid (((uniq ((ps.take (kn + 1)).map Place.pack)).filter (deadP ⟨k, nn, next, sn, cs, ps⟩ L)).length = b + 1) := by have := hB32.out; unfold Hid; simpa [hi] using this
                        obtain ⟨_, hr3⟩ := hci3.no hpz.out hi
                        replace hi := Lib.hid hi
                        go_wp2_with fail
                        go_meet
                        exact ⟨true, rfl, hm2, rfl⟩
                  case rest =>
                  obtain ⟨B, rfl, hB, hwh⟩ := hcut
                  obtain ⟨wk, rfl⟩ : ∃ x : World, x = wc := ⟨_, rfl⟩
                  subst hwh
                  clear hB32
                  go_upto_if 182 with fail
                  cases B
                  · go_wp2_with fail
                    go_roundw
                    case rel => exact ⟨kn + 1, a2, b, m2, by omega, by go_num, rfl, rfl, rfl, hal, by omega, hm2l, hae, hB.out.symm, hm2, hb3⟩
                    case measure => simp [intOf]; omega
                  · go_wp2_with fail
                    go_roundw
                    case rel => exact ⟨kn + 1, a2, b + 1, m2, by omega, by go_num, rfl, by go_num, rfl, hal, by omega, hm2l, hae, hB.out.symm, hm2, hb3⟩
                    case measure => simp [intOf]; omega
            · obtain rfl : j = j2 := by omega
              have hall : ps.take j = ps := List.take_of_length_le (by have := sst.out.cs.1; have := hlv.out.1; dsimp only at *; omega)
              rw [hall] at hae hbe
              have ea : a = ((packsL ⟨k, nn, next, sn, cs, ps⟩).filter (staleP ⟨k, nn, next, sn, cs, ps⟩ L)).length := hae.out.trans (uniq_count (s := ⟨k, nn, next, sn, cs, ps⟩) _)
              have eb : b = ((packsL ⟨k, nn, next, sn, cs, ps⟩).filter (deadP ⟨k, nn, next, sn, cs, ps⟩ L)).length := hbe.out.trans (uniq_count (s := ⟨k, nn, next, sn, cs, ps⟩) _)
              have em : m = (markSp ⟨k, nn, next, sn, cs, ps⟩ L).moved.length := hme.out.trans (mvC_all (s := ⟨k, nn, next, sn, cs, ps⟩) hm hzl.out)
              have el := parts_len (s := ⟨k, nn, next, sn, cs, ps⟩) (L := L)
              have hX2 : l2 = (packsL ⟨k, nn, next, sn, cs, ps⟩).filter (staleP ⟨k, nn, next, sn, cs, ps⟩ L) := by have := congrArg Sp.stale hX; simpa [markSp] using this
              have hX3 : l3 = (packsL ⟨k, nn, next, sn, cs, ps⟩).filter (deadP ⟨k, nn, next, sn, cs, ps⟩ L) := by have := congrArg Sp.dead hX; simpa [markSp] using this
              rw [← hX2] at ea
              rw [← hX3] at eb
              rw [← hX] at em el
              dsimp only at em el
              have hpk9 : Hid (∀ p ∈ packsL ⟨k, nn, next, sn, cs, ps⟩, p.size ≤ maxLen) := by
                refine Lib.hid fun p hp => ?_
                unfold packsL at hp
                rw [setS_mem, List.mem_map] at hp
                obtain ⟨q, hq, rfl⟩ := hp
                rw [hpz'.out q hq]
                decide
              have hwhata : Hid (∀ y ∈ l2, y ∈ inPk ⟨k, nn, next, sn, cs, ps⟩ L j ∧ y ∈ outPk ⟨k, nn, next, sn, cs, ps⟩ L j ∧ y ∈ packsL ⟨k, nn, next, sn, cs, ps⟩) := by
                refine Lib.hid fun y hy => ?_
                rw [hX2] at hy
                obtain ⟨h1, h2⟩ := List.mem_filter.1 hy
                obtain ⟨h3, h4⟩ := out_stale hm hzl.out h2
                exact ⟨h3, h4, h1⟩
              have hwhatb : Hid (∀ y ∈ l3, y ∉ inPk ⟨k, nn, next, sn, cs, ps⟩ L j ∧ y ∈ outPk ⟨k, nn, next, sn, cs, ps⟩ L j ∧ y ∈ packsL ⟨k, nn, next, sn, cs, ps⟩) := by
                refine Lib.hid fun y hy => ?_
                rw [hX3] at hy
                obtain ⟨h1, h2⟩ := List.mem_filter.1 hy
                obtain ⟨h3, h4⟩ := out_dead hm hzl.out h1 h2
                exact ⟨h3, h4, h1⟩
              have hrisa : Hid (RiseS l2) := by unfold Hid; rw [hX2]; exact (setS_rise _).filter _
              have hrisb : Hid (RiseS l3) := by unfold Hid; rw [hX3]; exact (setS_rise _).filter _
              obtain rfl : a = n2 := by have := rp2.out.1; omega
              obtain rfl : b = n3 := by have := rp3.out.1; omega
              obtain rfl : m = n4 := by have := rp4.out.1; omega
              have gl : ((n0 : Int) + (n1 : Int) == (j : Int)) = true := by
                have i0 := rp0.out.1
                have i1 := rp1.out.1
                have i3 := sst.out.cs.1
                dsimp only at i3
                simp
                omega
              have n0b : n0 ≤ 450 := by simp at gl; omega
              have n1b : n1 ≤ 450 := by simp at gl; omega
              have ab : a ≤ 450 := by omega
              have bb : b ≤ 450 := by omega
              have mb : m ≤ 450 := by omega
              clear ea eb em el hae hbe hme hX2 hX3 hall hst9 hdd9 ha hb hmj
              have e2 : ((a : Int) == (a : Int)) = true := beq_self_eq_true _
              have e3 : ((b : Int) == (b : Int)) = true := beq_self_eq_true _
              have e4 : ((m : Int) == (m : Int)) = true := beq_self_eq_true _
              go_wp2_with fail
              clear x0 x1 x2 x3 x4 x5
              obtain ⟨w5, rfl⟩ : ∃ x : World, x = wr3 := ⟨_, rfl⟩
              have h45 := h4s
              have hci5 := hci3
              have hco5 := hco3
              go_loopw [19] (fun i wr => ∃ i2 : Nat, i2 ≤ a ∧ i = .int .i64 i2 ∧ Below w5.heap.size w5 wr) (fun i _ => a - (intOf i).toNat)
              case atStart => exact ⟨0, Nat.zero_le _, rfl, Below.refl _ _⟩
              case round =>
                obtain ⟨i2, hi2, rfl, hbR⟩ := hrel
                obtain ⟨wR, rfl⟩ : ∃ x : World, x = wr := ⟨_, rfl⟩
                have h4R : Below w4.heap.size w4 wR := h45.trans (hbR.mono h45.size)
                obtain ⟨ga0, ga1, ga2, ga3, ga4⟩ := (SpBox.below bax.out bax.out.lt h4R).cells
                have lu := (SpBox.below bax.out bax.out.lt h4R).lt
                by_cases hltR : i2 < a
                · have hciR := hci5.below hbR
                  have hcoR := hco5.below hbR
                  have hiR : (i2 : Int) < (a : Int) := by omega
                  have hrow := rp2.out.to h4R
                  obtain ⟨y, hy⟩ := getElem_some (l := l2) (i := i2) (by have := hrow.1; omega)
                  obtain ⟨b8, o8, hA8, hb8⟩ := hrow.addrOf hltR
                  subst hA8
                  have y8 := hrow.strAt hy
                  have hyy := hwhata.out y (List.mem_of_getElem? hy)
                  have hpz : Hid (y.size ≤ maxLen) := hpk9.out y hyy.2.2
                  obtain ⟨ci, hr3, _, f1, f2, f3, f4⟩ := hciR.yes hpz.out hyy.1
                  obtain ⟨co, hr2, _, g1, g2, g3, g4⟩ := hcoR.yes hpz.out hyy.2.1
                  have h00 : decide ((0 : Int) < 0) = false := rfl
                  have h02 : ((0 : Int) == 0) = true := rfl
                  by_cases h0 : i2 = 0
                  · have gq : decide ((0 : Int) < (i2 : Int)) = false := by simp; omega
                    have gq' : decide (0 < i2) = false := by simp; omega
                    replace h0 := Lib.hid h0
                    replace hyy := Lib.hid hyy
                    replace hy := Lib.hid hy
                    replace hrow := Lib.hid hrow
                    go_upto_region 37 with fail
                    go_quiet (fail)
                    have hbn : Below w5.heap.size w5 (wR.drewN nq) := below_drawn hbR nq
                    go_wp2_with fail
                    go_roundw
                    case rel => exact ⟨i2 + 1, by omega, by go_num, hbn⟩
                    case measure => simp [intOf]; omega
                  · obtain ⟨i1, hi1⟩ : ∃ i1, i1 + 1 = i2 := ⟨i2 - 1, by omega⟩
                    obtain ⟨x, hx⟩ := getElem_some (l := l2) (i := i1) (by have := hrow.1; omega)
                    have hlt := rise_step hrisa.out hx (by rw [hi1]; exact hy)
                    have x8 := hrow.strAt hx
                    have gq : decide ((0 : Int) < (i2 : Int)) = true := by simp; omega
                    have gq' : decide (0 < i2) = true := by simp; omega
                    have hi1n : (i1 : Int) < (a : Int) := by omega
                    have hi1m : i1 < a := by omega
                    have e9 : (i2 : Int) - 1 = (i1 : Int) := by omega
                    have hwr := wrap_less hi1 (by omega)
                    have hc1 : Op.bytesLess y.toList x.toList = false := sLt_asymm hlt
                    have hc2 := str_ne (Ne.symm (sLt_ne hlt))
                    replace hlt := Lib.hid hlt
                    replace hyy := Lib.hid hyy
                    replace hy := Lib.hid hy
                    replace hx := Lib.hid hx
                    replace hrow := Lib.hid hrow
                    replace hi1 := Lib.hid hi1
                    go_upto_region 37 with fail
                    go_quiet (fail)
                    have hbn : Below w5.heap.size w5 (wR.drewN nq) := below_drawn hbR nq
                    go_wp2_with fail
                    go_roundw
                    case rel => exact ⟨i2 + 1, by omega, by go_num, hbn⟩
                    case measure => simp [intOf]; omega
                · obtain rfl : i2 = a := by omega
                  go_wp2_with fail
                  clear ga0 ga1 ga2 ga3 ga4 lu
                  obtain ⟨w6, rfl⟩ : ∃ x : World, x = wR := ⟨_, rfl⟩
                  have h46 := h4R
                  have hci6 := hci5.below hbR
                  have hco6 := hco5.below hbR
                  go_loopw [20] (fun i wr => ∃ i3 : Nat, i3 ≤ b ∧ i = .int .i64 i3 ∧ Below w6.heap.size w6 wr) (fun i _ => b - (intOf i).toNat)
                  case atStart => exact ⟨0, Nat.zero_le _, rfl, Below.refl _ _⟩
                  case round =>
                    obtain ⟨i3, hi3, rfl, hbR⟩ := hrel
                    obtain ⟨wR, rfl⟩ : ∃ x : World, x = wr := ⟨_, rfl⟩
                    have h4R : Below w4.heap.size w4 wR := h46.trans (hbR.mono h46.size)
                    obtain ⟨ga0, ga1, ga2, ga3, ga4⟩ := (SpBox.below bax.out bax.out.lt h4R).cells
                    have lu := (SpBox.below bax.out bax.out.lt h4R).lt
                    by_cases hltR : i3 < b
                    · have hciR := hci6.below hbR
                      have hcoR := hco6.below hbR
                      have hiR : (i3 : Int) < (b : Int) := by omega
                      have hrow := rp3.out.to h4R
                      obtain ⟨y, hy⟩ := getElem_some (l := l3) (i := i3) (by have := hrow.1; omega)
                      obtain ⟨b8, o8, hA8, hb8⟩ := hrow.addrOf hltR
                      subst hA8
                      have y8 := hrow.strAt hy
                      have hyy := hwhatb.out y (List.mem_of_getElem? hy)
                      have hpz : Hid (y.size ≤ maxLen) := hpk9.out y hyy.2.2
                      obtain ⟨hr3, _⟩ := hciR.no hpz.out hyy.1
                      obtain ⟨co, hr2, _, g1, g2, g3, g4⟩ := hcoR.yes hpz.out hyy.2.1
                      have h00 : decide ((0 : Int) < 0) = false := rfl
                      have h02 : ((0 : Int) == 0) = true := rfl
                      by_cases h0 : i3 = 0
                      · have gq : decide ((0 : Int) < (i3 : Int)) = false := by simp; omega
                        have gq' : decide (0 < i3) = false := by simp; omega
                        replace h0 := Lib.hid h0
                        replace hyy := Lib.hid hyy
                        replace hy := Lib.hid hy
                        replace hrow := Lib.hid hrow
                        go_upto_region 42 with fail
                        go_quiet (fail)
                        have hbn : Below w6.heap.size w6 (wR.drewN nq) := below_drawn hbR nq
                        go_wp2_with fail
                        go_roundw
                        case rel => exact ⟨i3 + 1, by omega, by go_num, hbn⟩
                        case measure => simp [intOf]; omega
                      · obtain ⟨i1, hi1⟩ : ∃ i1, i1 + 1 = i3 := ⟨i3 - 1, by omega⟩
                        obtain ⟨x, hx⟩ := getElem_some (l := l3) (i := i1) (by have := hrow.1; omega)
                        have hlt := rise_step hrisb.out hx (by rw [hi1]; exact hy)
                        have x8 := hrow.strAt hx
                        have gq : decide ((0 : Int) < (i3 : Int)) = true := by simp; omega
                        have gq' : decide (0 < i3) = true := by simp; omega
                        have hi1n : (i1 : Int) < (b : Int) := by omega
                        have hi1m : i1 < b := by omega
                        have e9 : (i3 : Int) - 1 = (i1 : Int) := by omega
                        have hwr := wrap_less hi1 (by omega)
                        have hc1 : Op.bytesLess y.toList x.toList = false := sLt_asymm hlt
                        have hc2 := str_ne (Ne.symm (sLt_ne hlt))
                        replace hlt := Lib.hid hlt
                        replace hyy := Lib.hid hyy
                        replace hy := Lib.hid hy
                        replace hx := Lib.hid hx
                        replace hrow := Lib.hid hrow
                        replace hi1 := Lib.hid hi1
                        go_upto_region 42 with fail
                        go_quiet (fail)
                        have hbn : Below w6.heap.size w6 (wR.drewN nq) := below_drawn hbR nq
                        go_wp2_with fail
                        go_roundw
                        case rel => exact ⟨i3 + 1, by omega, by go_num, hbn⟩
                        case measure => simp [intOf]; omega
                    · obtain rfl : i3 = b := by omega
                      obtain ⟨x0, x1, x2, x3, x4, x5⟩ := (bs.out.below h4R).cells
                      go_wp2_with fail
                      go_ret
                      exact ⟨rfl, fw.trans (h4R.mono fw.size)⟩
end Go.Proofs.Ytcepdigeimedoaa
