/-
  mark.Needs: what snapshots need, if what a root needs is known.
-/
import Derived.Test.YtdhlmhkabckbaaaGreatDoorSnapA
import Derived.Test.YtdhlmhkabckbaaaGreatDoorCntA
import Derived.Test.YtdhlmhkabckbaaaGreatDoorStrs
namespace Go.Proofs.YtdhlmhkabckbaaaGreatDoor
open Go.RowKit Go.Maps Go.Sort Go.Shelf Go.ChangeMaps

/-- What the snapshots need that are left, behind what those ahead of them need. -/
def needGo (NF : ByteArray → List ByteArray × Int) : List Snap → List ByteArray → List ByteArray × Int
  | [], acc => (setS acc, 0)
  | s :: r, acc => if (NF s.root).2 = 0 then needGo NF r (acc ++ (NF s.root).1) else ([], (NF s.root).2)
def needsRes (NF : ByteArray → List ByteArray × Int) (l : List Snap) : List ByteArray × Int := if mayL l then needGo NF l [] else ([], 4)
theorem mayL_len {l : List Snap} (h : mayL l = true) : l.length ≤ 32 := by
  unfold mayL at h
  simp only [Bool.and_eq_true, decide_eq_true_eq] at h
  exact h.2

set_option maxRecDepth 100000 in
set_option maxHeartbeats 4000000 in
theorem mark_Needs (NF : ByteArray → List ByteArray × Int) (A A' : Option Addr) (n c n' c' : Nat) (l : List Snap) (w : World) (h : SnapsAt w w.heap.size A n l)
    (hNl : mayL l = true → ∀ s ∈ l, (NF s.root).1.length ≤ 18000000 ∧ ∀ x ∈ (NF s.root).1, x.size ≤ maxLen)
    (hN : mayL l = true → ∀ s ∈ l, ∀ W, Below w.heap.size w W → Calls Tryz.prog 24 #[.string s.root, .slice A' n' c'] W fun e w' => ∃ v, e = .returned (.tuple #[v, .int .i64 (NF s.root).2]) ∧ strE.Own w' W.heap.size v (NF s.root).1 ∧ Below W.heap.size W w') :
    Calls Tryz.prog 12 #[.slice A n c, .slice A' n' c'] w fun e w' => ∃ v, e = .returned (.tuple #[v, .int .i64 (needsRes NF l).2]) ∧ strE.Own w' w.heap.size v (needsRes NF l).1 ∧ Below w.heap.size w w' := by
  have hl := Lib.hid h.1
  have hn := h.2.1
  have hmay := Lib.hid (snap_May A n c l w h)
  cases hm : mayL l
  · have hres : Hid (needsRes NF l = ([], 4)) := by simp [Hid, needsRes, hm]
    rw [hm] at hmay
    clear hm hNl hN
    go_enter Tryz.func12, Tryz.ntmps12
    go_wp2_with fail
    refine hmay.out.mono ?_
    rintro e w1 ⟨rfl, hb1⟩
    go_wp2_with fail
    go_ret2
    exact ⟨.slice none 0 0, by rw [hres.out]; rfl, by rw [hres.out]; exact Owns.nil_, hb1⟩
  · have hres : Hid (needsRes NF l = needGo NF l []) := by simp [Hid, needsRes, hm]
    have h32 : n ≤ 32 := by have := mayL_len hm; have := hl.out; omega
    rw [hm] at hmay
    replace hNl := Lib.hid (hNl hm)
    replace hN := Lib.hid (hN hm)
    replace hm := Lib.hid hm
    have hmm := @run_makeMap Tryz.prog
    go_enter Tryz.func12, Tryz.ntmps12
    go_wp2_with fail
    refine hmay.out.mono ?_
    rintro e w1 ⟨rfl, hb1⟩
    have hc1 := Lib.hid (CntAt.made w1)
    have hbw1 : Below w.heap.size w (w1.alloc (.map #[] 0)) := hb1.alloc hb1.size _
    have hz1 := hb1.size
    have hs1 : (w1.alloc (.map #[] 0)).heap.size = w1.heap.size + 1 := by simp
    go_wp2_with fail
    generalize w1.alloc (.map #[] 0) = w2 at hc1 hbw1 hs1 ⊢
    clear hb1
    obtain ⟨mb, hmb⟩ : ∃ x, x = w1.heap.size := ⟨_, rfl⟩
    rw [← hmb] at hc1 hz1 hs1 ⊢
    clear hmb
    go_loopw [8, 9, 10, 12, 19] (fun _ _ _ _ ti wr => ∃ (k : Nat) (acc : List ByteArray), k ≤ n ∧ ti = .int .i64 k ∧ CntAt wr mb acc ∧ acc.length ≤ k * 18000000 ∧ Below w.heap.size w wr ∧ mb < wr.heap.size ∧ Hid (needGo NF l [] = needGo NF (l.drop k) acc)) (fun _ _ _ _ ti _ => n - (intOf ti).toNat)
    case atStart => exact ⟨0, [], Nat.zero_le _, rfl, hc1.out, by simp, hbw1, by omega, rfl⟩
    case round =>
      clear hc1 hbw1 hs1 hmm hmay
      replace hz1 := Lib.hid hz1
      obtain ⟨k, acc, hk, rfl, hcnt, hal, hbw, hmb, hgo⟩ := hrel
      obtain ⟨wp, rfl⟩ : ∃ x : World, x = wr := ⟨_, rfl⟩
      by_cases hlt : k < n
      · obtain ⟨b, off, s, rfl, hb, hx, q0, q1, q2⟩ := (h.to hbw).snap hlt
        have hdr := Lib.hid (drop_cons hx)
        have hmem := List.mem_of_getElem? hx
        have hb3 : Below w.heap.size w (wp.alloc (.cells #[.int .i64 s.id, .int .i64 s.time, .string s.root] 63)) := hbw.alloc hbw.size _
        have hNs := hN.out s hmem _ hb3
        have hNb := hNl.out s hmem
        obtain ⟨L, z, hz⟩ : ∃ L z, NF s.root = (L, z) := ⟨_, _, rfl⟩
        have hstep : Hid (needGo NF (s :: l.drop (k + 1)) acc = if z = 0 then needGo NF (l.drop (k + 1)) (acc ++ L) else ([], z)) := by simp [Hid, needGo, hz]
        rw [hz] at hNs hNb
        dsimp only at hNs hNb
        obtain ⟨hNb1, hNb2⟩ := hNb
        have hc3 := Lib.hid (hcnt.alloc (.cells #[.int .i64 s.id, .int .i64 s.time, .string s.root] 63))
        replace hz := Lib.hid hz
        clear hx hmem hcnt
        go_upto_region 7 with fail
        have hn3 := heap_alloc_new wp (.cells #[.int .i64 s.id, .int .i64 s.time, .string s.root] 63)
        have s2 : (wp.alloc (.cells #[.int .i64 s.id, .int .i64 s.time, .string s.root] 63)).cell? ⟨wp.heap.size, 2, none⟩ = some (.string s.root) := (cell_of_row _ _ 2 _ _ _ hn3).trans rfl
        have l3 : wp.heap.size < (wp.alloc (.cells #[.int .i64 s.id, .int .i64 s.time, .string s.root] 63)).heap.size := by simp
        clear hn3
        generalize wp.alloc (.cells #[.int .i64 s.id, .int .i64 s.time, .string s.root] 63) = w3 at hb3 hNs hc3 s2 l3 ⊢
        go_wp2_with fail
        refine hNs.mono ?_
        rintro e w4 ⟨v, rfl, hov, hb4⟩
        clear hNs
        obtain ⟨A4, c4, rfl⟩ := Owns.form hov
        have hbw4 : Below w.heap.size w w4 := hb3.trans (hb4.mono hb3.size)
        have hc4 := hc3.out.below hb4
        have hz4 := hb4.size
        have hz3 := hbw.size
        have hov4 := hov.from (B' := mb + 1) (by omega)
        clear hb4 hb3 hov hc3
        by_cases hz0 : z = 0
        · subst hz0
          have hs' : Hid (needGo NF l [] = needGo NF (l.drop (k + 1)) (acc ++ L)) := by unfold Hid; rw [hgo.out, hdr.out, hstep.out, if_pos rfl]
          clear hgo hdr hstep
          replace hNb2 := Lib.hid hNb2
          go_wp2_with fail
          go_loopw [12, 35] (fun _ ti wr => ∃ j : Nat, j ≤ L.length ∧ ti = .int .i64 j ∧ CntAt wr mb (acc ++ L.take j) ∧ strE.Own wr (mb + 1) (.slice A4 L.length c4) L ∧ Below w.heap.size w wr ∧ w4.heap.size ≤ wr.heap.size) (fun _ ti _ => L.length - (intOf ti).toNat)
          case atStart => exact ⟨0, Nat.zero_le _, rfl, by simpa using hc4, hov4, hbw4, Nat.le_refl _⟩
          case round =>
            clear hc4 hov4 hbw4
            obtain ⟨j, hj, rfl, hcnt, hov, hbw5, hz5⟩ := hrel
            obtain ⟨wi, rfl⟩ : ∃ x : World, x = wr := ⟨_, rfl⟩
            by_cases hlt2 : j < L.length
            · obtain ⟨bi, offi, x, rfl, hbi, hx, qi⟩ := (Owns.row (k := 1) (enc := strCell) (fun _ => rfl) hov).str hlt2
              have htk : Hid (acc ++ L.take (j + 1) = (acc ++ L.take j) ++ [x]) := by
                unfold Hid
                rw [List.take_add_one, hx]
                simp
              have hsz := Lib.hid (hNb2.out x (List.mem_of_getElem? hx))
              have hlen : Hid ((acc ++ L.take j).length < 1000000000) := by unfold Hid; simp; omega
              clear hx
              go_wp2_with (first
                | (at_lookup; go_must (refine wpList_cnt_lookup _ rfl _ _ rfl mb _ rfl hcnt x rfl hsz.out ?_); intro c hc9 hc)
                | (at_mapUpdate; go_must (refine wpList_cnt_update _ rfl _ _ _ rfl mb _ rfl hcnt hlen.out x rfl hsz.out c hc rfl ?_); intro w6 hcnt6 hg6))
              have hov6 := Owns.grown hov hg6 (Or.inr fun e => by have := (Owns.within hov e).1; omega)
              have hb6 : Below w.heap.size w w6 := Below.grown hbw5 hg6 hbw5.size (fun _ hi => by cases hi; exact hz1.out)
              have hz6 := Nat.le_trans hz5 hg6.size
              go_roundw
              case rel => exact ⟨j + 1, by omega, by go_num, by rw [htk.out]; exact hcnt6, hov6, hb6, hz6⟩
              case measure => simp [intOf]; omega
            · obtain rfl : j = L.length := by omega
              rw [List.take_length] at hcnt
              have hlen : (acc ++ L).length ≤ (k + 1) * 18000000 := by simp; omega
              go_wp2_with fail
              go_roundw
              case rel => exact ⟨k + 1, acc ++ L, by omega, by go_num, hcnt, hlen, hbw5, by omega, hs'⟩
              case measure => simp [intOf]; omega
        · have hs' : Hid (needsRes NF l = ([], z)) := by unfold Hid; rw [hres.out, hgo.out, hdr.out, hstep.out, if_neg hz0]
          clear hgo hdr hstep
          go_wp2_with fail
          go_ret2
          exact ⟨.slice none 0 0, by rw [hs'.out]; rfl, by rw [hs'.out]; exact Owns.nil_, hbw4⟩
      · obtain rfl : k = n := by omega
        have hend : Hid (needGo NF (l.drop k) acc = (setS acc, 0)) := by unfold Hid; rw [List.drop_eq_nil_of_le (by have := hl.out; omega)]; rfl
        have hfin : Hid (needsRes NF l = (setS acc, 0)) := by unfold Hid; rw [hres.out, hgo.out, hend.out]
        go_wp2_with fail
        refine (maps_Keys _ _).mono ?_
        rintro e w4 ⟨rfl, rfl⟩
        go_wp2_with fail
        refine (sorted_keys mb acc wp hcnt).mono ?_
        rintro e w5 ⟨u, rfl, hown, hb5⟩
        have hb6 : Below w.heap.size w w5 := (hbw.alloc hbw.size _).trans (hb5.mono (by have := hbw.size; omega))
        go_wp2_with fail
        go_ret2
        exact ⟨u, by rw [hfin.out]; rfl, by rw [hfin.out]; exact (show strE.Own .. from hown).from (by have := hbw.size; omega), hb6⟩
end Go.Proofs.YtdhlmhkabckbaaaGreatDoor
