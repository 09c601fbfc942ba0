/-
  The contract of the reference's Drop.
-/
import Derived.Test.YthbmbbbojpdlaaaDropA
namespace Go.Proofs.Ythbmbbbojpdlaaa
open Go.RowKit
attribute [local go_sem ↓] Go.wp_at_zero Go.wp_at_succ

set_option maxHeartbeats 4000000 in
set_option maxRecDepth 100000 in
theorem ref17_Drop (v : Rws) (s : St) (A : Option Addr) (n c : Nat) (ds : List ByteArray) (w : World) (h : StAt w w.heap.size v s) (hd : StrsAt w w.heap.size A n ds) (hn : n ≤ 1000) :
    Calls Try.prog 43 #[v.val s, .slice A n c] w fun e w' => ∃ r : Rws, e = .returned (.tuple #[r.val (dropIdx s ds).1, .int .i64 (dropIdx s ds).2]) ∧ AddOut w w' r (dropIdx s ds).1 := by
  obtain ⟨k, nn, next, sn, cs, ps⟩ := s
  obtain ⟨A1, n1, c1, A2, n2, c2, A3, n3, c3⟩ := v
  obtain ⟨h1, h2, h3, hok⟩ := h
  dsimp only at h1 h2 h3 hok
  have hmay := fun W (hb : Below w.heap.size w W) => ref17_May k nn next A1 n1 c1 A2 n2 c2 A3 n3 c3 cs ps W (h2.to hb) (h3.to hb) hok
  unfold stv at hmay
  unfold Rws.val stv
  dsimp only
  replace hmay := Lib.hid hmay
  have l2 := Lib.hid h2.1
  have l3 := Lib.hid h3.1
  have ld := Lib.hid hd.1
  have bx := Lib.hid ((BoxAt.new w k nn next (.slice A1 n1 c1) (.slice A2 n2 c2) (.slice A3 n3 c3)).alloc (.cells #[.int .i64 0, .int .i64 0, .int .i64 0, .slice none 0 0, .slice none 0 0, .slice none 0 0] 28))
  have bz : Hid (BoxAt ((w.alloc (.cells #[.int .i64 k, .int .i64 nn, .int .i64 next, .slice A1 n1 c1, .slice A2 n2 c2, .slice A3 n3 c3] 28)).alloc (.cells #[.int .i64 0, .int .i64 0, .int .i64 0, .slice none 0 0, .slice none 0 0, .slice none 0 0] 28)) (w.heap.size + 1) 0 0 0 (.slice none 0 0) (.slice none 0 0) (.slice none 0 0)) := by
    have := BoxAt.new (w.alloc (.cells #[.int .i64 k, .int .i64 nn, .int .i64 next, .slice A1 n1 c1, .slice A2 n2 c2, .slice A3 n3 c3] 28)) 0 0 0 (.slice none 0 0) (.slice none 0 0) (.slice none 0 0)
    exact Lib.hid (by simpa using this)
  have fb : Below w.heap.size w ((w.alloc (.cells #[.int .i64 k, .int .i64 nn, .int .i64 next, .slice A1 n1 c1, .slice A2 n2 c2, .slice A3 n3 c3] 28)).alloc (.cells #[.int .i64 0, .int .i64 0, .int .i64 0, .slice none 0 0, .slice none 0 0, .slice none 0 0] 28)) := ((Below.refl _ _).alloc (Nat.le_refl _) _).alloc (by simp) _
  have zz : Hid (((w.alloc (.cells #[.int .i64 k, .int .i64 nn, .int .i64 next, .slice A1 n1 c1, .slice A2 n2 c2, .slice A3 n3 c3] 28)).alloc (.cells #[.int .i64 0, .int .i64 0, .int .i64 0, .slice none 0 0, .slice none 0 0, .slice none 0 0] 28)).heap.size = w.heap.size + 2) := by unfold Hid; simp
  replace hok := Lib.hid hok
  go_enter Try.func43, Try.ntmps43
  go_upto_region 1 with fail
  generalize (w.alloc (.cells #[.int .i64 k, .int .i64 nn, .int .i64 next, .slice A1 n1 c1, .slice A2 n2 c2, .slice A3 n3 c3] 28)).alloc (.cells #[.int .i64 0, .int .i64 0, .int .i64 0, .slice none 0 0, .slice none 0 0, .slice none 0 0] 28) = W0 at bx bz fb zz ⊢
  have hz0 : w.heap.size + 1 < W0.heap.size := by have := zz.out; omega
  replace zz := Lib.hid zz.out
  obtain ⟨x0, x1, x2, x3, x4, x5⟩ := bx.out.cells
  go_wp2_with fail
  refine (hmay.out W0 fb).mono ?_
  cases hm : mayIdx cs ps
  · rintro e w1 ⟨rfl, hb1⟩
    have hres : Hid (dropIdx ⟨k, nn, next, sn, cs, ps⟩ ds = (stNone, 4)) := dropIdx_form hm
    have bz1 := Lib.hid (bz.out.below hb1)
    have f1 := fb.trans (hb1.mono (by omega))
    (obtain ⟨g0, g1, g2, g3, g4, g5⟩ := (bz1.out).cells
     have e0 := (bz1.out).frozen 0
     have e1 := (bz1.out).frozen 1
     have e2 := (bz1.out).frozen 2
     have e3 := (bz1.out).frozen 3
     have e4 := (bz1.out).frozen 4
     have e5 := (bz1.out).frozen 5)
    have hl1 : w.heap.size + 1 < w1.heap.size := bz1.out.lt
    clear x0 x1 x2 x3 x4 x5
    go_wp2_with fail
    (obtain ⟨t0, t1, t2, t3, t4, t5⟩ := (BoxAt.st6 (bz1.out) 0 0 0 (.slice none 0 0) (.slice none 0 0) (.slice none 0 0)).cells
     clear g0 g1 g2 g3 g4 g5
     exact bodyPost_ret (v := .tuple #[.agg #[.int .i64 0, .int .i64 0, .int .i64 0, .slice none 0 0, .slice none 0 0, .slice none 0 0], .int .i64 4]) (by simp [results, Try.results43, go_sem, t0, t1, t2, t3, t4, t5]) rfl
       ⟨⟨none, 0, 0, none, 0, 0, none, 0, 0⟩, by rw [hres.out]; rfl, by rw [hres.out]; exact addOut_none (below_st6 (f1) (by omega) _ _ _ _ _ _)⟩)
  · rintro e w1 ⟨rfl, hb1⟩
    have hz1 := hb1.size
    have bz1 := Lib.hid (bz.out.below hb1)
    have bx1 := Lib.hid (bx.out.below hb1)
    have f1 := fb.trans (hb1.mono (by omega))
    have hl1 : w.heap.size + 1 < w1.heap.size := bz1.out.lt
    have hlen := mayIdx_len hm
    have h400 : n2 ≤ 400 := by have := l2.out; omega
    have hn23 : Hid (n2 = n3) := by have := l2.out; have := l3.out; unfold Hid; omega
    have hcp : Hid (cs.length = ps.length) := hlen.1
    clear x0 x1 x2 x3 x4 x5 hb1
    replace hlen := Lib.hid hlen
    replace hm := Lib.hid hm
    go_wp2_with fail
    go_loopw [6] (fun i wr => ∃ j : Nat, j ≤ n ∧ i = .int .i64 j ∧ Hid (∀ (q : Nat) (d : ByteArray), q < j → ds[q]? = some d → d ∈ cs) ∧ Below w1.heap.size w1 wr) (fun i _ => n - (intOf i).toNat)
    case atStart => exact ⟨0, Nat.zero_le _, rfl, fun q d hq => absurd hq (by omega), (by repeat (first | exact Below.refl _ _ | assumption | refine Below.drew ?_ | refine below_drewN ?_ _ | refine Below.alloc ?_ (by first | omega | (simp; try omega)) _ | refine Below.setCell ?_ (by first | omega | (simp; try omega)) _ | (refine Below.trans ?_ (Below.mono (by assumption) (by first | omega | (simp; try omega))))))⟩
    case round =>
      obtain ⟨j, hj, rfl, hall, hbr⟩ := hrel
      have hzr := hbr.size
      have fr := f1.trans (hbr.mono (by omega))
      have hlr : w.heap.size + 1 < wr.heap.size := by omega
      have hl8 : w.heap.size < wr.heap.size := by omega
      have bxr := Lib.hid (bx1.out.below hbr)
      have bzr := Lib.hid (bz1.out.below hbr)
      obtain ⟨x0, x1, x2, x3, x4, x5⟩ := bxr.out.cells
      by_cases hlt : j < n
      · obtain ⟨b2, o2, d, rfl, hb2, hx2, y0⟩ := (hd.to fr).str hlt
        have hat := Lib.hid (fun W (hb : Below wr.heap.size wr W) => ref17_at A2 n2 c2 cs d W ((h2.to fr).to hb))
        have hjj : (j : Int) < (n : Int) := by omega
        replace hx2 := Lib.hid hx2
        by_cases hin : d ∈ cs
        · obtain ⟨ai, hai⟩ := atI_in hin
          rw [hai] at hat
          have hge : decide ((ai : Int) < (0 : Int)) = false := by simp
          have hall' : Hid (∀ (q : Nat) (d : ByteArray), q < j + 1 → ds[q]? = some d → d ∈ cs) := fun q d' hq h1 => by
            rcases Nat.lt_or_ge q j with h | h
            · exact hall.out q d' h h1
            · obtain rfl : q = j := by omega
              rw [hx2.out] at h1
              injection h1 with h1
              subst h1
              exact hin
          replace hin := Lib.hid hin
          replace hai := Lib.hid hai
          go_wp2_with fail
          (refine wp_region_ext (wr.heap.size) (by kernel_rfl) (by kernel_rfl) ?_
           repeat (go_big_quiet_step ((go_at_call 65; with_reducible refine Calls.ext (Nat.le_refl _) (hat.out _ (Ext.below _)))))
           refine wpQuiet_nil ?_
           intro w3 hw'
           have hbw3 := Ext.of hw'
           clear hw'
           obtain ⟨hcw3, hfw3⟩ := bcell hbw3; (try simp only [World.size_drew, World.cell?_drew, World.frozen?_drew, World.heap_drewN, World.cell?_drewN, World.frozen?_drewN] at hcw3 hfw3); have hzw3 := hbw3.size; (try simp at hzw3); (try have hlw3 := (by omega : w.heap.size < w3.heap.size)); (try have hmw3 := (by omega : w.heap.size + 1 < w3.heap.size)); (try have hnw3 := (by omega : w.heap.size + 1 + 1 < w3.heap.size)))
          have hb3 : Below wr.heap.size wr w3 := by assumption
          clear hcw3 hfw3
          go_wp2_with fail
          go_roundw
          case rel => exact ⟨j + 1, by omega, by go_num, hall', hbr.trans (hb3.mono hzr)⟩
          case measure => simp [intOf]; omega
        · rw [atI_out hin] at hat
          have hge : decide ((-1 : Int) < (0 : Int)) = true := by decide
          have hres : Hid (dropIdx ⟨k, nn, next, sn, cs, ps⟩ ds = (stNone, 5)) := dropIdx_none hm.out hx2.out hin
          replace hin := Lib.hid hin
          go_wp2_with fail
          (refine wp_region_ext (wr.heap.size) (by kernel_rfl) (by kernel_rfl) ?_
           repeat (go_big_quiet_step ((go_at_call 65; with_reducible refine Calls.ext (Nat.le_refl _) (hat.out _ (Ext.below _)))))
           refine wpQuiet_nil ?_
           intro w3 hw'
           have hbw3 := Ext.of hw'
           clear hw'
           obtain ⟨hcw3, hfw3⟩ := bcell hbw3; (try simp only [World.size_drew, World.cell?_drew, World.frozen?_drew, World.heap_drewN, World.cell?_drewN, World.frozen?_drewN] at hcw3 hfw3); have hzw3 := hbw3.size; (try simp at hzw3); (try have hlw3 := (by omega : w.heap.size < w3.heap.size)); (try have hmw3 := (by omega : w.heap.size + 1 < w3.heap.size)); (try have hnw3 := (by omega : w.heap.size + 1 + 1 < w3.heap.size)))
          have hb3 : Below wr.heap.size wr w3 := by assumption
          clear hcw3 hfw3
          have fw := fr.trans (hb3.mono (by omega))
          have bzw := Lib.hid (bzr.out.below hb3)
          have hlw := bzw.out.lt
          (obtain ⟨g0, g1, g2, g3, g4, g5⟩ := (bzw.out).cells
           have e0 := (bzw.out).frozen 0
           have e1 := (bzw.out).frozen 1
           have e2 := (bzw.out).frozen 2
           have e3 := (bzw.out).frozen 3
           have e4 := (bzw.out).frozen 4
           have e5 := (bzw.out).frozen 5)
          clear x0 x1 x2 x3 x4 x5 y0
          go_wp2_with fail
          (obtain ⟨t0, t1, t2, t3, t4, t5⟩ := (BoxAt.st6 (bzw.out) 0 0 0 (.slice none 0 0) (.slice none 0 0) (.slice none 0 0)).cells
           clear g0 g1 g2 g3 g4 g5
           exact bodyPost_ret (v := .tuple #[.agg #[.int .i64 0, .int .i64 0, .int .i64 0, .slice none 0 0, .slice none 0 0, .slice none 0 0], .int .i64 5]) (by simp [results, Try.results43, go_sem, t0, t1, t2, t3, t4, t5]) rfl
             ⟨⟨none, 0, 0, none, 0, 0, none, 0, 0⟩, by rw [hres.out]; rfl, by rw [hres.out]; exact addOut_none (below_st6 (fw) (by omega) _ _ _ _ _ _)⟩)
      · obtain rfl : j = n := by omega
        have hres : Hid (dropIdx ⟨k, nn, next, sn, cs, ps⟩ ds = (⟨k, nn, next, sn, (dropGo ds cs ps).1, (dropGo ds cs ps).2⟩, 0)) := dropIdx_ok hm.out ld.out hall.out
        obtain ⟨b9, hb9⟩ : ∃ x, x = wr.heap.size := ⟨_, rfl⟩
        obtain ⟨wo, rfl⟩ : ∃ wo : World, wo = wr := ⟨_, rfl⟩
        have hds : Hid (DS wo (wo.alloc (.cells #[.int .i64 k, .int .i64 nn, .int .i64 next, .slice A1 n1 c1, .slice none 0 0, .slice none 0 0] 28)) b9 (b9 + 1) k nn next (.slice A1 n1 c1) (.slice none 0 0) (.slice none 0 0) (.slice none 0 0) (.slice none 0 0) [] []) := by rw [hb9]; exact DS.start wo k nn next _
        have hl9 : w.heap.size < wo.heap.size := by omega
        have hlb : Hid (b9 = wo.heap.size) := hb9
        have hlb9 : w.heap.size + 1 < b9 := by omega
        clear bx1 bz1
        replace hb9 := Lib.hid hb9
        go_wp2_with fail
        rw [← hb9.out]
        clear x0 x1 x2 x3 x4 x5
        go_loopw [8] (fun i wv => ∃ (q : Nat) (u4 u5 : Value), q ≤ n2 ∧ i = .int .i64 q ∧ Hid (DS wo wv b9 (b9 + 1) k nn next (.slice A1 n1 c1) u4 u5 u4 u5 (dropGo ds (cs.take q) (ps.take q)).1 (dropGo ds (cs.take q) (ps.take q)).2)) (fun i _ => n2 - (intOf i).toNat)
        case atStart => exact ⟨0, _, _, Nat.zero_le _, rfl, by simpa [dropGo] using hds⟩
        case round =>
          clear hds
          obtain ⟨q, u4, u5, hq9, rfl, hs⟩ := hrel
          obtain ⟨wq, hwq⟩ : ∃ x : World, x = wr := ⟨_, rfl⟩
          rw [← hwq] at hs ⊢
          clear hwq
          have s := hs.out
          have hlo : Hid (Below wo.heap.size wo wq) := by unfold Hid; rw [← hlb.out]; exact s.below
          have fq : Below w.heap.size w wq := fr.trans (hlo.out.mono (by omega))
          have hzq := fq.size
          have hl8 : b9 < wq.heap.size := s.bx.lt
          have hlq : w.heap.size + 1 < wq.heap.size := by omega
          obtain ⟨D, hD⟩ : ∃ D, D = (dropGo ds (cs.take q) (ps.take q)).1 := ⟨_, rfl⟩
          obtain ⟨P, hP⟩ : ∃ P, P = (dropGo ds (cs.take q) (ps.take q)).2 := ⟨_, rfl⟩
          have hDP := dropGo_len (ds := ds) (cs := cs.take q) (ps := ps.take q)
          rw [← hD, ← hP, List.length_take] at hDP
          have hDl : D.length ≤ 1000000000 := by omega
          have hPl : P.length ≤ 1000000000 := by omega
          rw [← hD, ← hP] at hs s
          obtain ⟨B4, q4, rfl⟩ := s.o4.form
          obtain ⟨B5, q5, rfl⟩ := s.o5.form
          obtain ⟨x0, x1, x2, x3, x4, x5⟩ := (bxr.out.below hlo.out).cells
          by_cases hlt : q < n2
          · obtain ⟨b2, o2, ch, rfl, hb2, hx2, y0⟩ := (h2.to fq).str hlt
            obtain ⟨b3, o3, p, rfl, hb3, hx3, z0, z1, z2⟩ := (h3.to fq).place (i := q) (by have := hn23.out; omega)
            have htk := dropGo_take (ds := ds) hcp.out hx2 hx3
            have hat := ref17_at A j c ds ch wq (hd.to fq)
            have hqq : (q : Int) < (n2 : Int) := by omega
            have hqn : (q : Int) < (n3 : Int) := by have := hn23.out; omega
            clear hDP
            by_cases hin : ch ∈ ds
            · have hgo : Hid (dropGo ds (cs.take (q + 1)) (ps.take (q + 1)) = dropGo ds (cs.take q) (ps.take q)) := by unfold Hid; rw [htk, if_pos hin]
              obtain ⟨ai, hai⟩ := atI_in hin
              rw [hai] at hat
              have hge : decide ((ai : Int) < (0 : Int)) = false := by simp
              replace hat := Lib.hid hat
              replace hin := Lib.hid hin
              replace hai := Lib.hid hai
              replace hx2 := Lib.hid hx2
              replace hx3 := Lib.hid hx3
              replace hD := Lib.hid hD
              replace hP := Lib.hid hP
              clear htk
              replace s := Lib.hid s
              go_wp2_with fail
              refine hat.out.mono ?_
              rintro e w3 ⟨rfl, hb3w⟩
              have s3 := Lib.hid (s.out.to hb3w)
              go_wp2_with fail
              go_roundw
              case rel => exact ⟨q + 1, _, _, by omega, by go_num, by rw [hgo.out, ← hD.out, ← hP.out]; exact s3⟩
              case measure => simp [intOf]; omega
            · have hgo : Hid (dropGo ds (cs.take (q + 1)) (ps.take (q + 1)) = (D ++ [ch], P ++ [p])) := by unfold Hid; rw [htk, if_neg hin, ← hD, ← hP]
              rw [atI_out hin] at hat
              have hge : decide ((-1 : Int) < (0 : Int)) = true := by decide
              replace hat := Lib.hid hat
              replace hin := Lib.hid hin
              have hS4 : Hid (∀ (W : World) (v4 v5 : Value) (D' : List ByteArray) (P' : List Place), DS wo W b9 (b9 + 1) k nn next (.slice A1 n1 c1) (.slice B4 D.length q4) (.slice B5 P.length q5) v4 v5 D' P' → (fun W : World => W.cell? ⟨b9, 4, none⟩ = some (.slice B4 D.length q4) ∧ W.cell? ⟨w.heap.size, 4, none⟩ = some (.slice (some ⟨b2, o2, none⟩) n2 c2) ∧ W.cell? ⟨b2, o2 + q, none⟩ = some (.string ch)) W) := fun W v4 v5 D' P' sa => by
                have hlo' : Below wo.heap.size wo W := by rw [← hlb.out]; exact sa.below
                exact ⟨sa.bx.cells.2.2.2.2.1, (bxr.out.below hlo').cells.2.2.2.2.1, ((h2.to fr).to hlo').strAt hx2⟩
              have hS5 : Hid (∀ (W : World) (c4 v4 v5 : Value) (D' : List ByteArray) (P' : List Place), DS wo W b9 (b9 + 1) k nn next (.slice A1 n1 c1) c4 (.slice B5 P.length q5) v4 v5 D' P' → (fun W : World => W.cell? ⟨b9, 5, none⟩ = some (.slice B5 P.length q5) ∧ W.cell? ⟨w.heap.size, 5, none⟩ = some (.slice (some ⟨b3, o3, none⟩) n3 c3) ∧ W.cell? ⟨b3, o3 + q * 3, none⟩ = some (.string p.pack) ∧ W.cell? ⟨b3, o3 + q * 3 + 1, none⟩ = some (.int .i64 p.at_) ∧ W.cell? ⟨b3, o3 + q * 3 + 2, none⟩ = some (.int .i64 p.len)) W) := fun W c4 v4 v5 D' P' sa => by
                have hlo' : Below wo.heap.size wo W := by rw [← hlb.out]; exact sa.below
                have hpp := ((h3.to fr).to hlo').placeAt hx3
                exact ⟨sa.bx.cells.2.2.2.2.2, (bxr.out.below hlo').cells.2.2.2.2.2, hpp.1, hpp.2.1, hpp.2.2⟩
              replace hx2 := Lib.hid hx2
              replace hx3 := Lib.hid hx3
              replace s := Lib.hid s
              replace hD := Lib.hid hD
              replace hP := Lib.hid hP
              clear htk
              go_wp2_with fail
              refine hat.out.mono ?_
              rintro e w3 ⟨rfl, hb3w⟩
              have s3 := s.out.to hb3w
              have hs3 := s3.hs
              clear x0 x1 x2 x3 x4 x5 y0 z0 z1 z2 hb3w
              go_wp2_with fail
              refine region_held_tail 9 (fun W : World => W.cell? ⟨b9, 4, none⟩ = some (.slice B4 D.length q4) ∧ W.cell? ⟨w.heap.size, 4, none⟩ = some (.slice (some ⟨b2, o2, none⟩) n2 c2) ∧ W.cell? ⟨b2, o2 + q, none⟩ = some (.string ch)) (by kernel_rfl) (by kernel_rfl) ?_
              have hHeld : (fun W : World => W.cell? ⟨b9, 4, none⟩ = some (.slice B4 D.length q4) ∧ W.cell? ⟨w.heap.size, 4, none⟩ = some (.slice (some ⟨b2, o2, none⟩) n2 c2) ∧ W.cell? ⟨b2, o2 + q, none⟩ = some (.string ch)) w3.drew := hS4.out _ _ _ _ _ s3.drew
              have sA := s3.drew.alloc (.cells #[.string ch] 9)
              have hsA := sA.hs
              (refine HT.takeL (i := 0) (v := ?_) rfl (by kernel_rfl) (fun _ _ _ h => h) (Or.inl ⟨by rfl, ?_⟩) (by assumption) ?_
               rotate_left
               · (intro w hSw; (try dsimp only at hSw); go_simp; (try with_reducible rfl))
               try simp only [Act.put, List.setIfInBounds_toArray, List.set_cons_zero, List.set_cons_succ])
              (refine HT.takeL (i := 1) (v := ?_) rfl (by kernel_rfl) (fun _ _ _ h => h) (Or.inl ⟨by rfl, ?_⟩) (by assumption) ?_
               rotate_left
               · (intro w hSw; (try dsimp only at hSw); go_simp; (try with_reducible rfl))
               try simp only [Act.put, List.setIfInBounds_toArray, List.set_cons_zero, List.set_cons_succ])
              (refine HT.takeL (i := 2) (v := ?_) rfl (by kernel_rfl) (fun _ _ _ h => h) (Or.inl ⟨by rfl, ?_⟩) (by assumption) ?_
               rotate_left
               · (intro w hSw; (try dsimp only at hSw); go_simp; (try with_reducible rfl))
               try simp only [Act.put, List.setIfInBounds_toArray, List.set_cons_zero, List.set_cons_succ])
              (refine HT.takeL (i := 3) (v := ?_) rfl (by kernel_rfl) (fun _ _ _ h => h) (Or.inl ⟨by rfl, ?_⟩) (by assumption) ?_
               rotate_left
               · (intro w hSw; (try dsimp only at hSw); go_simp; (try with_reducible rfl))
               try simp only [Act.put, List.setIfInBounds_toArray, List.set_cons_zero, List.set_cons_succ])
              (refine HT.takeL (i := 4) (v := ?_) rfl (by kernel_rfl) (fun _ _ _ h => h) (Or.inl ⟨by rfl, ?_⟩) (by assumption) ?_
               rotate_left
               · (intro w hSw; (try dsimp only at hSw); go_simp; (try with_reducible rfl))
               try simp only [Act.put, List.setIfInBounds_toArray, List.set_cons_zero, List.set_cons_succ])
              (refine HT.takeL (i := 5) (v := ?_) rfl (by kernel_rfl) (fun _ _ _ h => h) (Or.inl ⟨by rfl, ?_⟩) (by assumption) ?_
               rotate_left
               · (intro w hSw; (try dsimp only at hSw); go_simp; (try with_reducible rfl))
               try simp only [Act.put, List.setIfInBounds_toArray, List.set_cons_zero, List.set_cons_succ])
              (refine HT.takeL (i := 6) (v := ?_) rfl (by kernel_rfl) (fun _ _ _ h => h) (Or.inl ⟨by rfl, ?_⟩) (by assumption) ?_
               rotate_left
               · (intro w hSw; (try dsimp only at hSw); go_simp; (try with_reducible rfl))
               try simp only [Act.put, List.setIfInBounds_toArray, List.set_cons_zero, List.set_cons_succ])
              (refine HT.onlyL (i := 7) rfl (by kernel_rfl) (fun K hK => ?_)
               go_simp
               refine hK.out _ _ ?_ (fun hHeld => ?_)
               · (exact hS4.out _ _ _ _ _ sA)
               clear hK K
               try simp only [Act.put, List.setIfInBounds_toArray, List.set_cons_zero, List.set_cons_succ])
              (refine HT.onlyL (i := 8) rfl (by kernel_rfl) (fun K hK => ?_)
               ((apply Elem.step_one strE (s := .tmp 47) (x := .tmp 53) (base := b9 + 1) (l := D) (y := ch); (case' hgd => rfl); (case' ho => rfl); (case' hs => rfl); (case' hx => rfl); (case' hown => exact (sA.o4)); (case' hy => exact (fun j u hu => by rcases j with _ | j <;> simp [strE, strCell] at hu; subst hu; first | (go_simp; done) | exact newCell _ _ _ _ _)); (case' hl => exact hDl); (case' hbase => exact (by first | omega | (simp; try omega)))); intro v4' w5 ho4 hgr4 hat4; have s5 := DS.grow4 sA ho4 hgr4 hat4)
               refine hK.out _ _ ?_ (fun hHeld => ?_)
               · (exact hS4.out _ _ _ _ _ s5)
               clear hK K
               try simp only [Act.put, List.setIfInBounds_toArray, List.set_cons_zero, List.set_cons_succ])
              refine HT.tail (by kernel_rfl) ?_
              simp only [List.drop_succ_cons, List.drop_zero]
              obtain ⟨B4n, q4n, rfl⟩ := s5.o4.form
              rw [show (D ++ [ch]).length = D.length + 1 from by simp] at s5
              have s6 := s5.set4 (.slice B4n (D.length + 1) q4n)
              obtain ⟨_, _, _, _, r4, r5⟩ := s5.bx.cells
              have rf4 := s5.bx.frozen 4
              replace s5 := Lib.hid s5
              replace s3 := Lib.hid s3
              clear hgr4 hat4 ho4 hHeld
              go_wp2_with fail
              generalize w5.setCell ⟨b9, 4, none⟩ (.slice B4n (D.length + 1) q4n) = w6 at s6 ⊢
              have hs6 := s6.hs
              refine region_held_tail 9 (fun W : World => W.cell? ⟨b9, 5, none⟩ = some (.slice B5 P.length q5) ∧ W.cell? ⟨w.heap.size, 5, none⟩ = some (.slice (some ⟨b3, o3, none⟩) n3 c3) ∧ W.cell? ⟨b3, o3 + q * 3, none⟩ = some (.string p.pack) ∧ W.cell? ⟨b3, o3 + q * 3 + 1, none⟩ = some (.int .i64 p.at_) ∧ W.cell? ⟨b3, o3 + q * 3 + 2, none⟩ = some (.int .i64 p.len)) (by kernel_rfl) (by kernel_rfl) ?_
              have hHeld : (fun W : World => W.cell? ⟨b9, 5, none⟩ = some (.slice B5 P.length q5) ∧ W.cell? ⟨w.heap.size, 5, none⟩ = some (.slice (some ⟨b3, o3, none⟩) n3 c3) ∧ W.cell? ⟨b3, o3 + q * 3, none⟩ = some (.string p.pack) ∧ W.cell? ⟨b3, o3 + q * 3 + 1, none⟩ = some (.int .i64 p.at_) ∧ W.cell? ⟨b3, o3 + q * 3 + 2, none⟩ = some (.int .i64 p.len)) w6.drew := hS5.out _ _ _ _ _ _ s6.drew
              have sB := s6.drew.alloc (.cells #[.string p.pack, .int .i64 p.at_, .int .i64 p.len] 34)
              have hsB := sB.hs
              (refine HT.takeL (i := 0) (v := ?_) rfl (by kernel_rfl) (fun _ _ _ h => h) (Or.inl ⟨by rfl, ?_⟩) (by assumption) ?_
               rotate_left
               · (intro w hSw; (try dsimp only at hSw); go_simp; (try with_reducible rfl))
               try simp only [Act.put, List.setIfInBounds_toArray, List.set_cons_zero, List.set_cons_succ])
              (refine HT.takeL (i := 1) (v := ?_) rfl (by kernel_rfl) (fun _ _ _ h => h) (Or.inl ⟨by rfl, ?_⟩) (by assumption) ?_
               rotate_left
               · (intro w hSw; (try dsimp only at hSw); go_simp; (try with_reducible rfl))
               try simp only [Act.put, List.setIfInBounds_toArray, List.set_cons_zero, List.set_cons_succ])
              (refine HT.takeL (i := 2) (v := ?_) rfl (by kernel_rfl) (fun _ _ _ h => h) (Or.inl ⟨by rfl, ?_⟩) (by assumption) ?_
               rotate_left
               · (intro w hSw; (try dsimp only at hSw); go_simp; (try with_reducible rfl))
               try simp only [Act.put, List.setIfInBounds_toArray, List.set_cons_zero, List.set_cons_succ])
              (refine HT.takeL (i := 3) (v := ?_) rfl (by kernel_rfl) (fun _ _ _ h => h) (Or.inl ⟨by rfl, ?_⟩) (by assumption) ?_
               rotate_left
               · (intro w hSw; (try dsimp only at hSw); go_simp; (try with_reducible rfl))
               try simp only [Act.put, List.setIfInBounds_toArray, List.set_cons_zero, List.set_cons_succ])
              (refine HT.takeL (i := 4) (v := ?_) rfl (by kernel_rfl) (fun _ _ _ h => h) (Or.inl ⟨by rfl, ?_⟩) (by assumption) ?_
               rotate_left
               · (intro w hSw; (try dsimp only at hSw); go_simp; (try with_reducible rfl))
               try simp only [Act.put, List.setIfInBounds_toArray, List.set_cons_zero, List.set_cons_succ])
              (refine HT.takeL (i := 5) (v := ?_) rfl (by kernel_rfl) (fun _ _ _ h => h) (Or.inl ⟨by rfl, ?_⟩) (by assumption) ?_
               rotate_left
               · (intro w hSw; (try dsimp only at hSw); go_simp; (try with_reducible rfl))
               try simp only [Act.put, List.setIfInBounds_toArray, List.set_cons_zero, List.set_cons_succ])
              (refine HT.takeL (i := 6) (v := ?_) rfl (by kernel_rfl) (fun _ _ _ h => h) (Or.inl ⟨by rfl, ?_⟩) (by assumption) ?_
               rotate_left
               · (intro w hSw; (try dsimp only at hSw); go_simp; (try with_reducible rfl))
               try simp only [Act.put, List.setIfInBounds_toArray, List.set_cons_zero, List.set_cons_succ])
              (refine HT.onlyL (i := 7) rfl (by kernel_rfl) (fun K hK => ?_)
               go_simp
               refine hK.out _ _ ?_ (fun hHeld => ?_)
               · (exact hS5.out _ _ _ _ _ _ sB)
               clear hK K
               try simp only [Act.put, List.setIfInBounds_toArray, List.set_cons_zero, List.set_cons_succ])
              (refine HT.onlyL (i := 8) rfl (by kernel_rfl) (fun K hK => ?_)
               ((apply Elem.step_one placeE (s := .tmp 57) (x := .tmp 63) (base := b9 + 1) (l := P) (y := p); (case' hgd => rfl); (case' ho => rfl); (case' hs => rfl); (case' hx => rfl); (case' hown => exact (sB.o5)); (case' hy => exact (fun j u hu => by rcases j with _ | _ | _ | j <;> simp [placeE, Place.cells] at hu <;> subst hu <;> first | (go_simp; done) | exact newCell _ _ _ _ _)); (case' hl => exact hPl); (case' hbase => exact (by first | omega | (simp; try omega)))); intro v5' w7 ho5 hgr5 hat5; have s7 := DS.grow5 sB ho5 hgr5 hat5)
               refine hK.out _ _ ?_ (fun hHeld => ?_)
               · (exact hS5.out _ _ _ _ _ _ s7)
               clear hK K
               try simp only [Act.put, List.setIfInBounds_toArray, List.set_cons_zero, List.set_cons_succ])
              refine HT.tail (by kernel_rfl) ?_
              simp only [List.drop_succ_cons, List.drop_zero]
              obtain ⟨B5n, q5n, rfl⟩ := s7.o5.form
              rw [show (P ++ [p]).length = P.length + 1 from by simp] at s7
              have hlast := Lib.hid (s7.set5 (.slice B5n (P.length + 1) q5n))
              obtain ⟨_, _, _, _, t4, t5⟩ := s7.bx.cells
              have tf5 := s7.bx.frozen 5
              replace s7 := Lib.hid s7
              replace s6 := Lib.hid s6
              clear hgr5 hat5 ho5 hHeld r4 r5 rf4
              go_wp2_with fail
              go_roundw
              case rel => exact ⟨q + 1, _, _, by omega, by go_num, by rw [hgo.out]; exact hlast⟩
              case measure => simp [intOf]; omega
          · obtain rfl : q = n2 := by omega
            have hge : decide ((q : Int) < (q : Int)) = false := by simp
            have htkc : cs.take q = cs := List.take_of_length_le (by have := l2.out; omega)
            have htkp : ps.take q = ps := List.take_of_length_le (by have := l3.out; have := hn23.out; omega)
            rw [htkc, htkp] at hD hP
            have hfb := below_st6 fq (b := w.heap.size + 1) (by omega) k nn next (.slice A1 n1 c1) (.slice B4 D.length q4) (.slice B5 P.length q5)
            have ho4 := s.o4.st6 (b := w.heap.size + 1) (by omega) k nn next (.slice A1 n1 c1) (.slice B4 D.length q4) (.slice B5 P.length q5)
            have ho5 := s.o5.st6 (b := w.heap.size + 1) (by omega) k nn next (.slice A1 n1 c1) (.slice B4 D.length q4) (.slice B5 P.length q5)
            have hout : Hid (AddOut w (st6 wq (w.heap.size + 1) k nn next (.slice A1 n1 c1) (.slice B4 D.length q4) (.slice B5 P.length q5)) ⟨A1, n1, c1, B4, D.length, q4, B5, P.length, q5⟩ ⟨k, nn, next, sn, D, P⟩) :=
              ⟨⟨h1.to hfb, ho4.row strCell_len, ho5.row Place.cells_len, fun x hx => hok.out x (dropGo_sub x (hP ▸ hx))⟩, ho4.from (by omega), ho5.from (by omega), hfb⟩
            have hres' : Hid (dropIdx ⟨k, nn, next, sn, cs, ps⟩ ds = (⟨k, nn, next, sn, D, P⟩, 0)) := by unfold Hid; rw [hres.out, hD, hP]
            obtain ⟨y0, y1, y2, y3, y4, y5⟩ := s.bx.cells
            have bzq := bzr.out.below hlo.out
            (obtain ⟨g0, g1, g2, g3, g4, g5⟩ := (bzq).cells
             have e0 := (bzq).frozen 0
             have e1 := (bzq).frozen 1
             have e2 := (bzq).frozen 2
             have e3 := (bzq).frozen 3
             have e4 := (bzq).frozen 4
             have e5 := (bzq).frozen 5)
            have bz9 := Lib.hid (bzq.st6 k nn next (.slice A1 n1 c1) (.slice B4 D.length q4) (.slice B5 P.length q5))
            replace s := Lib.hid s
            replace hD := Lib.hid hD
            replace hP := Lib.hid hP
            replace bzq := Lib.hid bzq
            clear hfb ho4 ho5 htkc htkp hDP
            go_wp2_with fail
            clear g0 g1 g2 g3 g4 g5 x0 x1 x2 x3 x4 x5 y0 y1 y2 y3 y4 y5
            obtain ⟨t0, t1, t2, t3, t4, t5⟩ := bz9.out.cells
            exact bodyPost_ret (v := .tuple #[.agg #[.int .i64 k, .int .i64 nn, .int .i64 next, .slice A1 n1 c1, .slice B4 D.length q4, .slice B5 P.length q5], .int .i64 0]) (by simp [results, Try.results43, go_sem, t0, t1, t2, t3, t4, t5]) rfl ⟨⟨A1, n1, c1, B4, D.length, q4, B5, P.length, q5⟩, by rw [hres'.out], by rw [hres'.out]; exact hout.out⟩
end Go.Proofs.Ythbmbbbojpdlaaa
