/-
  The walk of RootReads.
-/
import Derived.Test.YthbmbbbojpdlaaaRefRead
import Derived.Test.YthbmbbbojpdlaaaSameB
import Derived.Test.YthbmbbbojpdlaaaWrit
namespace Go.Proofs.Ythbmbbbojpdlaaa
open Go.RowKit
attribute [local go_sem ↓] Go.wp_at_zero Go.wp_at_succ

theorem Writ.atj {k : Nat} {w : World} {base n : Nat} {A : Option Addr} (h : Writ k w base A n) {i j : Nat} (hi : i < n) (hj : j < k) : ∃ b off u, A = some ⟨b, off, none⟩ ∧ base ≤ b ∧ w.cell? ⟨b, off + i * k + j, none⟩ = some u ∧ w.frozen? ⟨b, off + i * k + j, none⟩ = false := by
  obtain ⟨b, off, e, hb, hc⟩ := h (by omega)
  have hj : i * k + j < n * k := by
    have := Nat.mul_le_mul_right k (show i + 1 ≤ n from hi)
    rw [Nat.add_mul] at this
    omega
  obtain ⟨u, hu⟩ := Option.isSome_iff_exists.1 (hc _ hj).1
  rw [← Nat.add_assoc] at hu
  have h2 := (hc _ hj).2
  rw [← Nat.add_assoc] at h2
  exact ⟨b, off, u, e, hb, hu, h2⟩

/-- What was read: its box, and its rows, which may be written over and lie apart from the box. -/
structure RdAt (w1 : World) (base g : Nat) (k n x : Int) (A1 A2 A3 : Option Addr) (n1 n2 n3 c1 c2 c3 : Nat) (w : World) : Prop where
  below : Below w1.heap.size w1 w
  bx : BoxAt w g k n x (.slice A1 n1 c1) (.slice A2 n2 c2) (.slice A3 n3 c3)
  p1 : Writ 3 w base A1 n1
  p2 : Writ 1 w base A2 n2
  p3 : Writ 3 w base A3 n3
  l1 : ∀ b off, 0 < n1 → A1 = some ⟨b, off, none⟩ → b < g
  l2 : ∀ b off, 0 < n2 → A2 = some ⟨b, off, none⟩ → b < g
  l3 : ∀ b off, 0 < n3 → A3 = some ⟨b, off, none⟩ → b < g
  hb : w1.heap.size ≤ base
section
variable {w1 w : World} {base g : Nat} {k n x : Int} {A1 A2 A3 : Option Addr} {n1 n2 n3 c1 c2 c3 : Nat}
theorem RdAt.store (h : RdAt w1 base g k n x A1 A2 A3 n1 n2 n3 c1 c2 c3 w) {b o : Nat} (hb : base ≤ b) (hg : b < g) (v : Value) : RdAt w1 base g k n x A1 A2 A3 n1 n2 n3 c1 c2 c3 (w.setCell ⟨b, o, none⟩ v) := by
  obtain ⟨q, bx, p1, p2, p3, l1, l2, l3, q0⟩ := h
  exact ⟨q.setCell (Nat.le_trans q0 hb) _, bx.setOther _ (by omega), p1.setCell _ _, p2.setCell _ _, p3.setCell _ _, l1, l2, l3, q0⟩
theorem RdAt.to {w' : World} (h : RdAt w1 base g k n x A1 A2 A3 n1 n2 n3 c1 c2 c3 w) (hb : Below w.heap.size w w') : RdAt w1 base g k n x A1 A2 A3 n1 n2 n3 c1 c2 c3 w' := by
  obtain ⟨q, bx, p1, p2, p3, l1, l2, l3, q0⟩ := h
  exact ⟨q.trans (hb.mono q.size), bx.below hb, p1.below hb, p2.below hb, p3.below hb, l1, l2, l3, q0⟩
theorem RdAt.put1 (h : RdAt w1 base g k n x A1 A2 A3 n1 n2 n3 c1 c2 c3 w) {i : Nat} (hi : i < n1) : ∃ b off u, A1 = some ⟨b, off, none⟩ ∧ base ≤ b ∧ b < g ∧ w.cell? ⟨b, off + i * 3, none⟩ = some u ∧ w.frozen? ⟨b, off + i * 3, none⟩ = false := by
  obtain ⟨b, off, u, e, hb, hu, hf⟩ := h.p1.at_ hi (by decide)
  exact ⟨b, off, u, e, hb, h.l1 b off (by omega) e, hu, hf⟩
theorem RdAt.put2 (h : RdAt w1 base g k n x A1 A2 A3 n1 n2 n3 c1 c2 c3 w) {i : Nat} (hi : i < n2) : ∃ b off u, A2 = some ⟨b, off, none⟩ ∧ base ≤ b ∧ b < g ∧ w.cell? ⟨b, off + i, none⟩ = some u ∧ w.frozen? ⟨b, off + i, none⟩ = false := by
  obtain ⟨b, off, u, e, hb, hu, hf⟩ := h.p2.at_ hi (by decide)
  rw [Nat.mul_one] at hu hf
  exact ⟨b, off, u, e, hb, h.l2 b off (by omega) e, hu, hf⟩
theorem RdAt.put3 (h : RdAt w1 base g k n x A1 A2 A3 n1 n2 n3 c1 c2 c3 w) {i : Nat} (hi : i < n3) : ∃ b off u, A3 = some ⟨b, off, none⟩ ∧ base ≤ b ∧ b < g ∧ w.cell? ⟨b, off + i * 3 + 1, none⟩ = some u ∧ w.frozen? ⟨b, off + i * 3 + 1, none⟩ = false := by
  obtain ⟨b, off, u, e, hb, hu, hf⟩ := h.p3.atj hi (j := 1) (by decide)
  exact ⟨b, off, u, e, hb, h.l3 b off (by omega) e, hu, hf⟩
end
theorem own_top {α : Type} {k : Nat} {enc : α → List Value} {T : TypeId} {w : World} {base n c : Nat} {A : Option Addr} {l : List α} (h : Owns k enc T w base (.slice A n c) l) : ∀ b off, 0 < n → A = some ⟨b, off, none⟩ → b < w.heap.size := by
  intro b off hn e
  rcases h.2 with ⟨e', h0⟩ | ⟨g, cap, cur, e', hg, hh, _⟩
  · simp only [Value.slice.injEq] at e'
    omega
  · simp only [Value.slice.injEq] at e'
    obtain ⟨rfl, _, _⟩ := e'
    simp only [Option.some.injEq, Addr.mk.injEq] at e
    rw [← e.1]
    exact (Array.getElem?_eq_some_iff.1 hh).1

theorem readRes_lens (b : List UInt8) : (readRes b).1.cs.length = (readRes b).1.ps.length := by
  rcases readRes_cases b with ⟨s, h1, _, h3⟩ | ⟨_, h3⟩
  · rw [h3]
    exact (mayState_good h1).csLen.1
  · rw [h3]
    rfl

set_option maxHeartbeats 1000000 in
set_option maxRecDepth 100000 in
theorem rootReads_walk (b : List UInt8) (w : World) (hb : b.length ≤ 9223372036854775807) :
    Calls Try.prog 3 #[.string (str b)] w fun e w' => e = .returned (.bool true) ∧ Below w.heap.size w w' := by
  have hsz : (str b).size = b.length := str_size b
  by_cases h6 : 60000 < b.length
  · have hg : decide ((60000 : Int) < (b.length : Int)) = true := by simp; omega
    replace h6 := Lib.hid h6
    go_enter Try.func3, Try.ntmps3
    go_wp2_with fail
    go_ret
    exact ⟨rfl, (by repeat (first | exact Below.refl _ _ | assumption | refine Below.drew ?_ | refine below_drewN ?_ _ | refine Below.alloc ?_ (by first | omega | (simp; try omega)) _ | refine Below.setCell ?_ (by first | omega | (simp; try omega)) _ | (refine Below.trans ?_ (Below.mono (by assumption) (by first | omega | (simp; try omega))))))⟩
  · have hg : decide ((60000 : Int) < (b.length : Int)) = false := by simp; omega
    have hR := Lib.hid (fun W => root_Read b W (by omega))
    have hQ := ref23_Read b w (by omega)
    obtain ⟨z, E, hz⟩ : ∃ z E, readRes b = (z, E) := by generalize readRes b = x; exact ⟨x.1, x.2, rfl⟩
    have hl23 := readRes_lens b
    rw [hz] at hl23
    dsimp only at hl23
    replace hl23 := Lib.hid hl23
    rw [hz] at hR hQ
    dsimp only at hR hQ
    obtain ⟨k, nn, next, sn, cs, ps⟩ := z
    have hE : (E != E) = false := by simp
    clear hz
    replace hQ := Lib.hid hQ
    replace h6 := Lib.hid h6
    go_enter Try.func3, Try.ntmps3
    go_wp2_with fail
    refine hQ.out.mono ?_
    rintro e w1 ⟨⟨B1, m1, d1, B2, m2, d2, B3, m3, d3⟩, rfl, o1, o2, o3, hok, hb1⟩
    unfold Rws.val stv
    dsimp only at o1 o2 o3 ⊢
    have hz1 := hb1.size
    have hq : Hid (StAt w1 w1.heap.size ⟨B1, m1, d1, B2, m2, d2, B3, m3, d3⟩ ⟨k, nn, next, sn, cs, ps⟩) := ⟨o1.row Snap.len, o2.row strCell_len, o3.row Place.cells_len, hok⟩
    clear o1 o2 o3 hok
    have bx0 := BoxAt.new w1 k nn next (.slice B1 m1 d1) (.slice B2 m2 d2) (.slice B3 m3 d3)
    obtain ⟨W1, hW1⟩ : ∃ W1, W1 = w1.alloc (.cells #[.int .i64 k, .int .i64 nn, .int .i64 next, .slice B1 m1 d1, .slice B2 m2 d2, .slice B3 m3 d3] 28) := ⟨_, rfl⟩
    have hbW : Below w1.heap.size w1 W1 := by rw [hW1]; exact (Below.refl _ _).alloc (Nat.le_refl _) _
    have hzW : W1.heap.size = w1.heap.size + 1 := by rw [hW1]; simp
    rw [← hW1] at bx0
    have hq1 : Hid (StAt W1 W1.heap.size ⟨B1, m1, d1, B2, m2, d2, B3, m3, d3⟩ ⟨k, nn, next, sn, cs, ps⟩) := hq.out.to hbW
    have hbW0 : Below w.heap.size w W1 := hb1.trans (hbW.mono hz1)
    replace bx0 := Lib.hid bx0
    replace hzW := Lib.hid hzW
    go_upto_block 0 with fail
    rw [← hW1]
    clear hW1
    go_wp2_with fail
    go_loopw [5, 6, 7, 8, 9] (fun i _ _ _ _ wr => ∃ r : Nat, r ≤ 2 ∧ i = .int .i64 r ∧ Below W1.heap.size W1 wr) (fun i _ _ _ _ _ => 2 - (intOf i).toNat)
    case atStart => exact ⟨0, by omega, rfl, Below.refl _ _⟩
    case round =>
      obtain ⟨r, hr2, rfl, hbr⟩ := hrel
      have hzr := hbr.size
      obtain ⟨wo, rfl⟩ : ∃ wo : World, wo = wr := ⟨_, rfl⟩
      by_cases hlt : r < 2
      · go_wp2_with fail
        refine (hR.out wo).mono ?_
        rintro e w2 ⟨⟨A1, n1, c1, A2, n2, c2, A3, n3, c3⟩, rfl, o1, o2, o3, hok, hb2⟩
        unfold Rws.val stv
        dsimp only at o1 o2 o3 ⊢
        have hz2 := hb2.size
        have hs : StAt w2 w2.heap.size ⟨A1, n1, c1, A2, n2, c2, A3, n3, c3⟩ ⟨k, nn, next, sn, cs, ps⟩ := ⟨o1.row Snap.len, o2.row strCell_len, o3.row Place.cells_len, hok⟩
        have bz := ((bx0.out.below hbr).below hb2).alloc (.cells #[.int .i64 k, .int .i64 nn, .int .i64 next, .slice A1 n1 c1, .slice A2 n2 c2, .slice A3 n3 c3] 28)
        have bs := BoxAt.new w2 k nn next (.slice A1 n1 c1) (.slice A2 n2 c2) (.slice A3 n3 c3)
        have hba : Below w2.heap.size w2 (w2.alloc (.cells #[.int .i64 k, .int .i64 nn, .int .i64 next, .slice A1 n1 c1, .slice A2 n2 c2, .slice A3 n3 c3] 28)) := (Below.refl _ _).alloc (Nat.le_refl _) _
        have hl1 : sn.length = n1 := o1.row Snap.len |>.1
        have hl2 : cs.length = n2 := o2.row strCell_len |>.1
        have hl3 : ps.length = n3 := o3.row Place.cells_len |>.1
        have hm1 : n1 ≤ 9223372036854775807 := (o1.row Snap.len).2.1
        have hm2 : n2 ≤ 9223372036854775807 := (o2.row strCell_len).2.1
        have R0 : RdAt W1 wo.heap.size w2.heap.size k nn next A1 A2 A3 n1 n2 n3 c1 c2 c3 (w2.alloc (.cells #[.int .i64 k, .int .i64 nn, .int .i64 next, .slice A1 n1 c1, .slice A2 n2 c2, .slice A3 n3 c3] 28)) :=
          ⟨(hbr.trans (hb2.mono hzr)).trans (hba.mono (by omega)), bs, o1.writ.below hba, o2.writ.below hba, o3.writ.below hba, own_top o1, own_top o2, own_top o3, hzr⟩
        have hsame := Lib.hid (fun W (h1 : Below w2.heap.size w2 W) => ref17_Same ⟨A1, n1, c1, A2, n2, c2, A3, n3, c3⟩ ⟨B1, m1, d1, B2, m2, d2, B3, m3, d3⟩ ⟨k, nn, next, sn, cs, ps⟩ ⟨k, nn, next, sn, cs, ps⟩ W (hs.to h1) ((hq1.out.to hbr).to (hb2.trans (h1.mono hz2))))
        rw [sameSt_self] at hsame
        unfold Rws.val stv at hsame
        dsimp only at hsame
        have hn23 : Hid (n2 = n3) := by have := hl23.out; unfold Hid; omega
        clear o1 o2 o3 hok hs hl1 hl2 hl3
        obtain ⟨x0, x1, x2, x3, x4, x5⟩ := bs.cells
        obtain ⟨y0, y1, y2, y3, y4, y5⟩ := bz.cells
        replace bs := Lib.hid bs
        replace bz := Lib.hid bz
        replace R0 := Lib.hid R0
        go_wp2_with fail
        refine (hsame.out _ hba).mono ?_
        rintro e w3 ⟨rfl, hb3⟩
        have hz3 := hb3.size
        have R1 := Lib.hid (R0.out.to hb3)
        clear x0 x1 x2 x3 x4 x5 y0 y1 y2 y3 y4 y5 bs bz R0 hsame
        go_wp2_with fail
        go_loopw [8] (fun i wr => ∃ q : Nat, q ≤ n2 ∧ i = .int .i64 q ∧ Hid (RdAt W1 wo.heap.size w2.heap.size k nn next A1 A2 A3 n1 n2 n3 c1 c2 c3 wr)) (fun i _ => n2 - (intOf i).toNat)
        case atStart => exact ⟨0, Nat.zero_le _, rfl, R1⟩
        case round =>
          obtain ⟨q, hq, rfl, R⟩ := hrel
          obtain ⟨x0, x1, x2, x3, x4, x5⟩ := R.out.bx.cells
          by_cases hqn : q < n2
          · obtain ⟨p2, f2, u2, rfl, hp2, hp2g, hu2, hz2f⟩ := R.out.put2 hqn
            have R' := R.out.store (o := f2 + q) hp2 hp2g (.string ⟨#[63]⟩)
            obtain ⟨p3, f3, u3, rfl, hp3, hp3g, hu3, hz3f⟩ := R'.put3 (i := q) (by have := hn23.out; omega)
            have hq3 : q < n3 := by have := hn23.out; omega
            have R'' := R'.store (o := f3 + q * 3 + 1) hp3 hp3g (.int .i64 (-1))
            obtain ⟨x0', x1', x2', x3', x4', x5'⟩ := R'.bx.cells
            replace R' := Lib.hid R'
            replace R'' := Lib.hid R''
            go_wp2_with fail
            go_roundw
            case rel => exact ⟨q + 1, by omega, by go_num, R''⟩
            case measure => simp [intOf]; omega
          · go_wp2_with fail
            go_loopw [9] (fun i wr => ∃ q : Nat, q ≤ n1 ∧ i = .int .i64 q ∧ Hid (RdAt W1 wo.heap.size w2.heap.size k nn next A1 A2 A3 n1 n2 n3 c1 c2 c3 wr)) (fun i _ => n1 - (intOf i).toNat)
            case atStart => exact ⟨0, Nat.zero_le _, rfl, R⟩
            case round =>
              clear x0 x1 x2 x3 x4 x5 R
              obtain ⟨q', hq', rfl, R⟩ := hrel
              obtain ⟨x0, x1, x2, x3, x4, x5⟩ := R.out.bx.cells
              by_cases hqn' : q' < n1
              · obtain ⟨p2, f2, u2, rfl, hp2, hp2g, hu2, hz2f⟩ := R.out.put1 hqn'
                have R' := Lib.hid (R.out.store (o := f2 + q' * 3) hp2 hp2g (.int .i64 (-1)))
                go_wp2_with fail
                go_roundw
                case rel => exact ⟨q' + 1, by omega, by go_num, R'⟩
                case measure => simp [intOf]; omega
              · have hbe := R.out.below
                go_wp2_with fail
                go_roundw
                case rel => exact ⟨r + 1, by omega, by go_num, hbe⟩
                case measure => simp [intOf]; omega
      · go_wp2_with fail
        go_ret
        exact ⟨rfl, hbW0.trans (hbr.mono (by have := hzW.out; omega))⟩
end Go.Proofs.Ythbmbbbojpdlaaa
