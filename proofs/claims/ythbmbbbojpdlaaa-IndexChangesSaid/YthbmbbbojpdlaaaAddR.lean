/-
  The contract of the reference's Add.
-/
import Derived.Test.YthbmbbbojpdlaaaDropA
import Derived.Test.YthbmbbbojpdlaaaTwo
namespace Go.Proofs.Ythbmbbbojpdlaaa
open Go.RowKit
attribute [local go_sem ↓] Go.wp_at_zero Go.wp_at_succ

section
variable {α : Type} {m k : Nat} {x y : α} {l : List α}
/-- A row with one more at a place, as far as its first k are laid. -/
def part {α : Type} (m : Nat) (x : α) (l : List α) (k : Nat) : List α := if m < k then (insAt m x l).take (k + 1) else l.take k
theorem part_lt (h : k < m) (hk : l[k]? = some y) : part m x l (k + 1) = part m x l k ++ [y] := by
  unfold part
  rw [if_neg (by omega), if_neg (by omega), List.take_add_one, hk]
  rfl
theorem part_eq (hk : l[m]? = some y) : part m x l (m + 1) = part m x l m ++ [x] ++ [y] := by
  have hl := (List.getElem?_eq_some_iff.1 hk).1
  have ht : (l.take m).length = m := by rw [List.length_take]; omega
  unfold part
  rw [if_pos (by omega), if_neg (by omega), insAt, List.take_append, ht, List.take_of_length_le (by omega), show m + 1 + 1 - m = 2 by omega, drop_cons hk]
  simp
theorem insAt_get (hm : m ≤ k) (hl : m ≤ l.length) : (insAt m x l)[k + 1]? = l[k]? := by
  have ht : (l.take m).length = m := by rw [List.length_take]; omega
  rw [insAt, List.getElem?_append_right (by omega), ht, show k + 1 - m = (k - m) + 1 by omega, List.getElem?_cons_succ, List.getElem?_drop, show m + (k - m) = k by omega]
theorem part_gt (h : m < k) (hk : l[k]? = some y) : part m x l (k + 1) = part m x l k ++ [y] := by
  have hl := (List.getElem?_eq_some_iff.1 hk).1
  unfold part
  rw [if_pos (by omega), if_pos h, List.take_add_one, insAt_get (by omega) (by omega), hk]
  rfl
theorem part_full (h : m < l.length) : part m x l l.length = insAt m x l := by
  unfold part
  rw [if_pos h, List.take_of_length_le (by rw [insAt_len (by omega)]; omega)]
theorem part_last : part l.length x l l.length ++ [x] = insAt l.length x l := by
  unfold part
  rw [if_neg (by omega), List.take_length, insAt_end]
theorem part_zero : part m x l 0 = [] := by simp [part]
theorem part_len (hm : m ≤ l.length) (hk : k ≤ l.length) : (part m x l k).length ≤ k + 1 := by
  unfold part
  split
  · rw [List.length_take]; omega
  · rw [List.length_take]; omega
end

/-- Block b9 is the box of the state that is being built: what it holds reads as D and P. -/
structure OS (w0 w : World) (b9 : Nat) (k nn next : Int) (s1 : Value) (A4 : Option Addr) (n4 c4 : Nat) (A5 : Option Addr) (n5 c5 : Nat) (D : List ByteArray) (P : List Place) (mine : Prop) : Prop where
  bx : BoxAt w b9 k nn next s1 (.slice A4 n4 c4) (.slice A5 n5 c5)
  bz : BoxAt w (w0.heap.size + 1) 0 0 0 (.slice none 0 0) (.slice none 0 0) (.slice none 0 0)
  r4 : StrsAt w w.heap.size A4 n4 D
  r5 : PlacesAt w w.heap.size A5 n5 P
  own : mine → strE.Own w (w0.heap.size + 2) (.slice A4 n4 c4) D ∧ placeE.Own w (w0.heap.size + 2) (.slice A5 n5 c5) P
  below : Below w0.heap.size w0 w
  lt : w0.heap.size + 1 < b9
section
variable {w0 w w' : World} {b9 : Nat} {k nn next : Int} {s1 : Value} {A4 A5 : Option Addr} {n4 c4 n5 c5 : Nat} {D : List ByteArray} {P : List Place} {mine : Prop}
theorem OS.to (h : OS w0 w b9 k nn next s1 A4 n4 c4 A5 n5 c5 D P mine) (hb : Below w.heap.size w w') : OS w0 w' b9 k nn next s1 A4 n4 c4 A5 n5 c5 D P mine :=
  ⟨h.bx.below hb, h.bz.below hb, h.r4.to hb, h.r5.to hb, fun hm => ⟨(h.own hm).1.below hb, (h.own hm).2.below hb⟩, h.below.trans (hb.mono (by have := h.lt; have := h.bx.lt; omega)), h.lt⟩
theorem OS.weak (h : OS w0 w b9 k nn next s1 A4 n4 c4 A5 n5 c5 D P mine) {mine' : Prop} (hm : mine' → mine) : OS w0 w b9 k nn next s1 A4 n4 c4 A5 n5 c5 D P mine' :=
  ⟨h.bx, h.bz, h.r4, h.r5, fun hm' => h.own (hm hm'), h.below, h.lt⟩
theorem OS.cast (h : OS w0 w b9 k nn next s1 A4 n4 c4 A5 n5 c5 D P mine) {D' : List ByteArray} {P' : List Place} (hD : D = D') (hP : P = P') : OS w0 w b9 k nn next s1 A4 n4 c4 A5 n5 c5 D' P' mine := hD ▸ hP ▸ h
theorem OS.put (h : OS w0 w b9 k nn next s1 A4 n4 c4 A5 n5 c5 D P mine) {A4' A5' : Option Addr} {n4' c4' n5' c5' : Nat} {D' : List ByteArray} {P' : List Place} {base : Nat} (T : Two w' w base (.slice A4' n4' c4') (.slice A5' n5' c5') D' P') (hb : b9 < base) :
    OS w0 ((w.setCell ⟨b9, 4, none⟩ (.slice A4' n4' c4')).setCell ⟨b9, 5, none⟩ (.slice A5' n5' c5')) b9 k nn next s1 A4' n4' c4' A5' n5' c5' D' P' True := by
  have hlt := h.lt
  have h4 := (T.o4.setOther (b := b9) (o := 4) (.slice A4' n4' c4') hb).setOther (b := b9) (o := 5) (.slice A5' n5' c5') hb
  have h5 := (T.o5.setOther (b := b9) (o := 4) (.slice A4' n4' c4') hb).setOther (b := b9) (o := 5) (.slice A5' n5' c5') hb
  exact ⟨(h.bx.set4 _).set5 _, (h.bz.setOther _ (by omega)).setOther _ (by omega), h4.row strCell_len, h5.row Place.cells_len, fun _ => ⟨h4.from (by omega), h5.from (by omega)⟩, (h.below.setCell (p := ⟨b9, 4, none⟩) (by show _ ≤ b9; omega) _).setCell (p := ⟨b9, 5, none⟩) (by show _ ≤ b9; omega) _, hlt⟩
end

set_option maxHeartbeats 4000000 in
set_option maxRecDepth 100000 in
theorem ref17_Add (v : Rws) (s : St) (A : Option Addr) (n c : Nat) (ds : List ByteArray) (A' : Option Addr) (n' c' : Nat) (qs : List Place) (w : World) (h : StAt w w.heap.size v s) (hd : StrsAt w w.heap.size A n ds) (hq : PlacesAt w w.heap.size A' n' qs) (hqok : ∀ p ∈ qs, PlaceOk p) (hn : n ≤ 1000) :
    Calls Try.prog 41 #[v.val s, .slice A n c, .slice A' n' c'] w fun e w' => ∃ r : Rws, e = .returned (.tuple #[r.val (addIdx s ds qs).1, .int .i64 (addIdx s ds qs).2]) ∧ AddOut w w' r (addIdx s ds qs).1 := by
  obtain ⟨k, nn, next, sn, cs, ps⟩ := s
  obtain ⟨A1, n1, c1, A2, n2, c2, A3, n3, c3⟩ := v
  obtain ⟨h1, h2, h3, hok⟩ := h
  dsimp only at h1 h2 h3 hok
  have hmay := fun W (hb : Below w.heap.size w W) => ref17_May k nn next A1 n1 c1 A2 n2 c2 A3 n3 c3 cs ps W (h2.to hb) (h3.to hb) hok
  unfold stv at hmay
  unfold Rws.val stv
  dsimp only
  replace hmay := Lib.hid hmay
  have l2 := Lib.hid h2.1
  have l3 := Lib.hid h3.1
  have ld := Lib.hid hd.1
  have lq := Lib.hid hq.1
  have bq := hq.2.1
  have bx := Lib.hid ((BoxAt.new w k nn next (.slice A1 n1 c1) (.slice A2 n2 c2) (.slice A3 n3 c3)).alloc (.cells #[.int .i64 0, .int .i64 0, .int .i64 0, .slice none 0 0, .slice none 0 0, .slice none 0 0] 28))
  have bz : Hid (BoxAt ((w.alloc (.cells #[.int .i64 k, .int .i64 nn, .int .i64 next, .slice A1 n1 c1, .slice A2 n2 c2, .slice A3 n3 c3] 28)).alloc (.cells #[.int .i64 0, .int .i64 0, .int .i64 0, .slice none 0 0, .slice none 0 0, .slice none 0 0] 28)) (w.heap.size + 1) 0 0 0 (.slice none 0 0) (.slice none 0 0) (.slice none 0 0)) := by
    have := BoxAt.new (w.alloc (.cells #[.int .i64 k, .int .i64 nn, .int .i64 next, .slice A1 n1 c1, .slice A2 n2 c2, .slice A3 n3 c3] 28)) 0 0 0 (.slice none 0 0) (.slice none 0 0) (.slice none 0 0)
    exact Lib.hid (by simpa using this)
  have fb : Below w.heap.size w ((w.alloc (.cells #[.int .i64 k, .int .i64 nn, .int .i64 next, .slice A1 n1 c1, .slice A2 n2 c2, .slice A3 n3 c3] 28)).alloc (.cells #[.int .i64 0, .int .i64 0, .int .i64 0, .slice none 0 0, .slice none 0 0, .slice none 0 0] 28)) := ((Below.refl _ _).alloc (Nat.le_refl _) _).alloc (by simp) _
  have zz : Hid (((w.alloc (.cells #[.int .i64 k, .int .i64 nn, .int .i64 next, .slice A1 n1 c1, .slice A2 n2 c2, .slice A3 n3 c3] 28)).alloc (.cells #[.int .i64 0, .int .i64 0, .int .i64 0, .slice none 0 0, .slice none 0 0, .slice none 0 0] 28)).heap.size = w.heap.size + 2) := by unfold Hid; simp
  replace hok := Lib.hid hok
  replace hqok := Lib.hid hqok
  go_enter Try.func41, Try.ntmps41
  go_upto_region 1 with fail
  generalize (w.alloc (.cells #[.int .i64 k, .int .i64 nn, .int .i64 next, .slice A1 n1 c1, .slice A2 n2 c2, .slice A3 n3 c3] 28)).alloc (.cells #[.int .i64 0, .int .i64 0, .int .i64 0, .slice none 0 0, .slice none 0 0, .slice none 0 0] 28) = W0 at bx bz fb zz ⊢
  have hz0 : w.heap.size + 1 < W0.heap.size := by have := zz.out; omega
  replace zz := Lib.hid zz.out
  obtain ⟨x0, x1, x2, x3, x4, x5⟩ := bx.out.cells
  go_wp2_with fail
  refine (hmay.out W0 fb).mono ?_
  cases hm : mayIdx cs ps
  · rintro e w1 ⟨rfl, hb1⟩
    have hres : Hid (addIdx ⟨k, nn, next, sn, cs, ps⟩ ds qs = (stNone, 4)) := addIdx_form hm
    have bz1 := Lib.hid (bz.out.below hb1)
    have f1 := fb.trans (hb1.mono (by omega))
    (obtain ⟨g0, g1, g2, g3, g4, g5⟩ := (bz1.out).cells
     have e0 := (bz1.out).frozen 0
     have e1 := (bz1.out).frozen 1
     have e2 := (bz1.out).frozen 2
     have e3 := (bz1.out).frozen 3
     have e4 := (bz1.out).frozen 4
     have e5 := (bz1.out).frozen 5)
    have hl1 : w.heap.size + 1 < w1.heap.size := bz1.out.lt
    clear x0 x1 x2 x3 x4 x5
    go_wp2_with fail
    (obtain ⟨t0, t1, t2, t3, t4, t5⟩ := (BoxAt.st6 (bz1.out) 0 0 0 (.slice none 0 0) (.slice none 0 0) (.slice none 0 0)).cells
     clear g0 g1 g2 g3 g4 g5
     exact bodyPost_ret (v := .tuple #[.agg #[.int .i64 0, .int .i64 0, .int .i64 0, .slice none 0 0, .slice none 0 0, .slice none 0 0], .int .i64 4]) (by simp [results, Try.results41, go_sem, t0, t1, t2, t3, t4, t5]) rfl
       ⟨⟨none, 0, 0, none, 0, 0, none, 0, 0⟩, by rw [hres.out]; rfl, by rw [hres.out]; exact addOut_none (below_st6 (f1) (by omega) _ _ _ _ _ _)⟩)
  · rintro e w1 ⟨rfl, hb1⟩
    have hz1 := hb1.size
    have bz1 := Lib.hid (bz.out.below hb1)
    have bx1 := Lib.hid (bx.out.below hb1)
    have f1 := fb.trans (hb1.mono (by omega))
    have hl1 : w.heap.size + 1 < w1.heap.size := bz1.out.lt
    have hlen := mayIdx_len hm
    have h400 : n2 ≤ 400 := by have := l2.out; omega
    have hn23 : Hid (n2 = n3) := by have := l2.out; have := l3.out; unfold Hid; omega
    clear x0 x1 x2 x3 x4 x5 hb1
    by_cases hnn : n = n'
    · subst hnn
      have hb : ((n : Int) != (n : Int)) = false := by simp
      by_cases hn0 : n = 0
      · subst hn0
        have hres : Hid (addIdx ⟨k, nn, next, sn, cs, ps⟩ ds qs = (stNone, 1)) := addIdx_arg hm (fun h => by have := ld.out; omega)
        (obtain ⟨g0, g1, g2, g3, g4, g5⟩ := (bz1.out).cells
         have e0 := (bz1.out).frozen 0
         have e1 := (bz1.out).frozen 1
         have e2 := (bz1.out).frozen 2
         have e3 := (bz1.out).frozen 3
         have e4 := (bz1.out).frozen 4
         have e5 := (bz1.out).frozen 5)
        go_wp2_with fail
        (obtain ⟨t0, t1, t2, t3, t4, t5⟩ := (BoxAt.st6 (bz1.out) 0 0 0 (.slice none 0 0) (.slice none 0 0) (.slice none 0 0)).cells
         clear g0 g1 g2 g3 g4 g5
         exact bodyPost_ret (v := .tuple #[.agg #[.int .i64 0, .int .i64 0, .int .i64 0, .slice none 0 0, .slice none 0 0, .slice none 0 0], .int .i64 1]) (by simp [results, Try.results41, go_sem, t0, t1, t2, t3, t4, t5]) rfl
           ⟨⟨none, 0, 0, none, 0, 0, none, 0, 0⟩, by rw [hres.out]; rfl, by rw [hres.out]; exact addOut_none (below_st6 (f1) (by omega) _ _ _ _ _ _)⟩)
      · have hb0 : decide ((n : Int) < 1) = false := by simp; omega
        replace hn0 := Lib.hid hn0
        replace hlen := Lib.hid hlen
        replace hm := Lib.hid hm
        go_wp2_with fail
        go_loopw [8] (fun i wr => ∃ j : Nat, j ≤ n ∧ i = .int .i64 j ∧ Hid (∀ (q : Nat) (d : ByteArray) (p : Place), q < j → ds[q]? = some d → qs[q]? = some p → d.size = 32 ∧ mayPlace p = true) ∧ Below w1.heap.size w1 wr) (fun i _ => n - (intOf i).toNat)
        case atStart => exact ⟨0, Nat.zero_le _, rfl, fun q d p hq => absurd hq (by omega), (by repeat (first | exact Below.refl _ _ | assumption | refine Below.drew ?_ | refine below_drewN ?_ _ | refine Below.alloc ?_ (by first | omega | (simp; try omega)) _ | refine Below.setCell ?_ (by first | omega | (simp; try omega)) _ | (refine Below.trans ?_ (Below.mono (by assumption) (by first | omega | (simp; try omega))))))⟩
        case round =>
          obtain ⟨j, hj, rfl, hall, hbr⟩ := hrel
          have hzr := hbr.size
          have fr := f1.trans (hbr.mono (by omega))
          by_cases hlt : j < n
          · obtain ⟨b2, o2, d, rfl, hb2, hx2, y0⟩ := (hd.to fr).str hlt
            obtain ⟨b3, o3, p, rfl, hb3, hx3, z0, z1, z2⟩ := (hq.to fr).place hlt
            have bzr := Lib.hid (bz1.out.below hbr)
            have hlr : w.heap.size + 1 < wr.heap.size := by omega
            by_cases h32 : d.size = 32
            · have hd32 : ((d.size : Int) != 32) = false := by simp; omega
              have hmp := fun W => ref17_MayPlace p W (hqok.out p (List.mem_of_getElem? hx3))
              unfold Place.agg at hmp
              replace hmp := Lib.hid hmp
              replace h32 := Lib.hid h32
              replace hx2 := Lib.hid hx2
              go_wp2_with fail
              refine (hmp.out _).mono ?_
              cases hpl : mayPlace p
              · rintro e w2 ⟨rfl, hbw2⟩
                have hres : Hid (addIdx ⟨k, nn, next, sn, cs, ps⟩ ds qs = (stNone, 1)) := addIdx_arg hm.out (fun h => by rw [mayNew_no2 hx3 hpl] at h; cases h.2.2)
                have bzw := Lib.hid (bzr.out.below hbw2)
                have fw := fr.trans (hbw2.mono (by omega))
                have hlw := bzw.out.lt
                (obtain ⟨g0, g1, g2, g3, g4, g5⟩ := (bzw.out).cells
                 have e0 := (bzw.out).frozen 0
                 have e1 := (bzw.out).frozen 1
                 have e2 := (bzw.out).frozen 2
                 have e3 := (bzw.out).frozen 3
                 have e4 := (bzw.out).frozen 4
                 have e5 := (bzw.out).frozen 5)
                replace hx3 := Lib.hid hx3
                replace hpl := Lib.hid hpl
                clear y0 z0 z1 z2
                go_wp2_with fail
                (obtain ⟨t0, t1, t2, t3, t4, t5⟩ := (BoxAt.st6 (bzw.out) 0 0 0 (.slice none 0 0) (.slice none 0 0) (.slice none 0 0)).cells
                 clear g0 g1 g2 g3 g4 g5
                 exact bodyPost_ret (v := .tuple #[.agg #[.int .i64 0, .int .i64 0, .int .i64 0, .slice none 0 0, .slice none 0 0, .slice none 0 0], .int .i64 1]) (by simp [results, Try.results41, go_sem, t0, t1, t2, t3, t4, t5]) rfl
                   ⟨⟨none, 0, 0, none, 0, 0, none, 0, 0⟩, by rw [hres.out]; rfl, by rw [hres.out]; exact addOut_none (below_st6 (fw) (by omega) _ _ _ _ _ _)⟩)
              · rintro e w2 ⟨rfl, hbw2⟩
                have hall' : Hid (∀ (q : Nat) (d : ByteArray) (p : Place), q < j + 1 → ds[q]? = some d → qs[q]? = some p → d.size = 32 ∧ mayPlace p = true) := fun q d' p' hq h1 h2 => by
                  rcases Nat.lt_or_ge q j with h | h
                  · exact hall.out q d' p' h h1 h2
                  · obtain rfl : q = j := by omega
                    rw [hx2.out] at h1
                    rw [hx3] at h2
                    injection h1 with h1
                    injection h2 with h2
                    subst h1 h2
                    exact ⟨h32.out, hpl⟩
                replace hx3 := Lib.hid hx3
                replace hpl := Lib.hid hpl
                go_wp2_with fail
                go_roundw
                case rel => exact ⟨j + 1, by omega, by go_num, hall', hbr.trans (hbw2.mono hzr)⟩
                case measure => simp [intOf]; omega
            · have hd32 : ((d.size : Int) != 32) = true := by simp; omega
              have hres : Hid (addIdx ⟨k, nn, next, sn, cs, ps⟩ ds qs = (stNone, 1)) := addIdx_arg hm.out (fun h => by rw [mayNew_no1 hx2 h32] at h; cases h.2.2)
              (obtain ⟨g0, g1, g2, g3, g4, g5⟩ := (bzr.out).cells
               have e0 := (bzr.out).frozen 0
               have e1 := (bzr.out).frozen 1
               have e2 := (bzr.out).frozen 2
               have e3 := (bzr.out).frozen 3
               have e4 := (bzr.out).frozen 4
               have e5 := (bzr.out).frozen 5)
              replace h32 := Lib.hid h32
              replace hx2 := Lib.hid hx2
              replace hx3 := Lib.hid hx3
              go_wp2_with fail
              (obtain ⟨t0, t1, t2, t3, t4, t5⟩ := (BoxAt.st6 (bzr.out) 0 0 0 (.slice none 0 0) (.slice none 0 0) (.slice none 0 0)).cells
               clear g0 g1 g2 g3 g4 g5
               exact bodyPost_ret (v := .tuple #[.agg #[.int .i64 0, .int .i64 0, .int .i64 0, .slice none 0 0, .slice none 0 0, .slice none 0 0], .int .i64 1]) (by simp [results, Try.results41, go_sem, t0, t1, t2, t3, t4, t5]) rfl
                 ⟨⟨none, 0, 0, none, 0, 0, none, 0, 0⟩, by rw [hres.out]; rfl, by rw [hres.out]; exact addOut_none (below_st6 (fr) (by omega) _ _ _ _ _ _)⟩)
          · obtain rfl : j = n := by omega
            have hnew : Hid (mayNew ds qs = true) := mayNew_yes ld.out lq.out hall.out
            have bxr := Lib.hid (bx1.out.below hbr)
            have bzr := Lib.hid (bz1.out.below hbr)
            have hlr : w.heap.size + 1 < wr.heap.size := by omega
            obtain ⟨x0, x1, x2, x3, x4, x5⟩ := bxr.out.cells
            obtain ⟨b9, hb9⟩ : ∃ x, x = wr.heap.size := ⟨_, rfl⟩
            have hfa : Below wr.heap.size wr (wr.alloc (.cells #[.int .i64 k, .int .i64 nn, .int .i64 next, .slice A1 n1 c1, .slice A2 n2 c2, .slice A3 n3 c3] 28)) := (Below.refl _ _).alloc (Nat.le_refl _) _
            have hos : Hid (OS w (wr.alloc (.cells #[.int .i64 k, .int .i64 nn, .int .i64 next, .slice A1 n1 c1, .slice A2 n2 c2, .slice A3 n3 c3] 28)) b9 k nn next (.slice A1 n1 c1) A2 n2 c2 A3 n3 c3 cs ps (0 < 0)) :=
              ⟨by rw [hb9]; exact BoxAt.new wr k nn next _ _ _, bzr.out.alloc _, (h2.to fr).to hfa, (h3.to fr).to hfa, fun h => absurd h (by omega), fr.trans (hfa.mono (by omega)), by omega⟩
            have hris : Hid (RiseS cs) := mayIdx_rise hm.out
            have hmpl : Hid (∀ p ∈ ps, mayPlace p = true) := mayIdx_places hm.out
            replace hb9 := Lib.hid hb9
            clear bx1 bz1 bxr bzr hfa
            go_wp2_with fail
            rw [← hb9.out]
            go_loopw [10, 11, 12, 13, 14] (fun i _ _ _ _ wq => ∃ (q : Nat) (cs' : List ByteArray) (ps' : List Place) (A4 : Option Addr) (n4 c4 : Nat) (A5 : Option Addr) (n5 c5 : Nat), q ≤ j ∧ i = .int .i64 q ∧ Hid (cs'.length = n2 + q) ∧ Hid (ps'.length = n2 + q) ∧ Hid (RiseS cs') ∧ Hid (∀ p ∈ ps', mayPlace p = true) ∧ Hid (addGo ds qs cs ps = addGo (ds.drop q) (qs.drop q) cs' ps') ∧ Hid (OS w wq b9 k nn next (.slice A1 n1 c1) A4 n4 c4 A5 n5 c5 cs' ps' (0 < q))) (fun i _ _ _ _ _ => j - (intOf i).toNat)
            case atStart => exact ⟨0, cs, ps, _, _, _, _, _, _, Nat.zero_le _, rfl, l2.out, by unfold Hid; rw [l3.out]; exact hn23.out.symm, hris, hmpl, rfl, hos⟩
            case round =>
              clear hos hlr
              obtain ⟨q, cs', ps', A4, n4, c4, A5, n5, c5, hq9, rfl, hl4, hl5, hri, hpl, hgo, hs⟩ := hrel
              obtain ⟨wq, hwq⟩ : ∃ x : World, x = wr := ⟨_, rfl⟩
              rw [← hwq] at hs ⊢
              clear hwq
              have s := hs.out
              have fq := s.below
              have hzq := fq.size
              have hlq : w.heap.size + 1 < wq.heap.size := s.bz.lt
              have hl9 : b9 < wq.heap.size := s.bx.lt
              obtain ⟨x0, x1, x2, x3, x4, x5⟩ := s.bx.cells
              have hn4 : Hid (n4 = n2 + q) := by have := s.r4.1; have := hl4.out; unfold Hid; omega
              have hn5 : Hid (n5 = n2 + q) := by have := s.r5.1; have := hl5.out; unfold Hid; omega
              by_cases hlt : q < j
              · obtain ⟨b2, o2, d, rfl, hb2, hx2, y0⟩ := (hd.to fq).str hlt
                obtain ⟨b3, o3, p, rfl, hb3, hx3, _⟩ := (hq.to fq).place hlt
                have hplp : mayPlace p = true := by
                  have := hnew.out
                  unfold mayNew at this
                  rw [Bool.and_eq_true] at this
                  exact List.all_eq_true.1 this.2 p (List.mem_of_getElem? hx3)
                have hat := Lib.hid (fun W (hb : Below wq.heap.size wq W) => ref17_at A4 n4 c4 cs' d W (s.r4.to hb))
                have hqq : (q : Int) < (j : Int) := by omega
                replace s := Lib.hid s
                by_cases hin : d ∈ cs'
                · obtain ⟨ai, hai⟩ := atI_in hin
                  rw [hai] at hat
                  have hge : decide ((0 : Int) ≤ (ai : Int)) = true := by simp
                  have hres : Hid (addIdx ⟨k, nn, next, sn, cs, ps⟩ ds qs = (stNone, 6)) := addIdx_none hm.out (by rw [ld.out, lq.out]) (by rw [ld.out]; omega) hnew.out (by rw [hgo.out, addGo_step hx2 hx3, if_pos hin])
                  replace hai := Lib.hid hai
                  replace hx2 := Lib.hid hx2
                  replace hx3 := Lib.hid hx3
                  replace hin := Lib.hid hin
                  replace hplp := Lib.hid hplp
                  go_wp2_with fail
                  (refine wp_region_ext (wq.heap.size) (by kernel_rfl) (by kernel_rfl) ?_
                   repeat (go_big_quiet_step ((go_at_call 65; with_reducible refine Calls.ext (Nat.le_refl _) (hat.out _ (Ext.below _)))))
                   refine wpQuiet_nil ?_
                   intro w3 hw'
                   have hbw3 := Ext.of hw'
                   clear hw'
                   obtain ⟨hcw3, hfw3⟩ := bcell hbw3; (try simp only [World.size_drew, World.cell?_drew, World.frozen?_drew, World.heap_drewN, World.cell?_drewN, World.frozen?_drewN] at hcw3 hfw3); have hzw3 := hbw3.size; (try simp at hzw3); (try have hlw3 := (by omega : w.heap.size < w3.heap.size)); (try have hmw3 := (by omega : w.heap.size + 1 < w3.heap.size)); (try have hnw3 := (by omega : w.heap.size + 1 + 1 < w3.heap.size)))
                  have s3 := s.out.to (show Below wq.heap.size wq w3 by assumption)
                  clear hcw3 hfw3
                  have hl3 : w.heap.size + 1 < w3.heap.size := s3.bz.lt
                  (obtain ⟨g0, g1, g2, g3, g4, g5⟩ := (s3.bz).cells
                   have e0 := (s3.bz).frozen 0
                   have e1 := (s3.bz).frozen 1
                   have e2 := (s3.bz).frozen 2
                   have e3 := (s3.bz).frozen 3
                   have e4 := (s3.bz).frozen 4
                   have e5 := (s3.bz).frozen 5)
                  replace s3 := Lib.hid s3
                  go_wp2_with fail
                  (obtain ⟨t0, t1, t2, t3, t4, t5⟩ := (BoxAt.st6 (s3.out.bz) 0 0 0 (.slice none 0 0) (.slice none 0 0) (.slice none 0 0)).cells
                   clear g0 g1 g2 g3 g4 g5
                   exact bodyPost_ret (v := .tuple #[.agg #[.int .i64 0, .int .i64 0, .int .i64 0, .slice none 0 0, .slice none 0 0, .slice none 0 0], .int .i64 6]) (by simp [results, Try.results41, go_sem, t0, t1, t2, t3, t4, t5]) rfl
                     ⟨⟨none, 0, 0, none, 0, 0, none, 0, 0⟩, by rw [hres.out]; rfl, by rw [hres.out]; exact addOut_none (below_st6 (s3.out.below) (by omega) _ _ _ _ _ _)⟩)
                · rw [atI_out hin] at hat
                  have hge : decide ((0 : Int) ≤ (-1 : Int)) = false := by decide
                  obtain ⟨m, hm9⟩ : ∃ m, m = lowB cs' d := ⟨_, rfl⟩
                  have hmn : m ≤ cs'.length := hm9 ▸ lowB_le cs' d
                  have hl4' : Hid ((insAt m d cs').length = n2 + (q + 1)) := by unfold Hid; rw [insAt_len hmn, hl4.out]; omega
                  have hl5' : Hid ((insAt m p ps').length = n2 + (q + 1)) := by unfold Hid; rw [insAt_len (by have := hl4.out; have := hl5.out; omega), hl5.out]; omega
                  have hri' : Hid (RiseS (insAt m d cs')) := hm9 ▸ rise_insAt hri.out hin
                  have hpl' : Hid (∀ p' ∈ insAt m p ps', mayPlace p' = true) := fun p' hp' => by
                    rcases mem_insAt.1 hp' with rfl | h
                    · exact hplp
                    · exact hpl.out p' h
                  have hgo' : Hid (addGo ds qs cs ps = addGo (ds.drop (q + 1)) (qs.drop (q + 1)) (insAt m d cs') (insAt m p ps')) := by unfold Hid; rw [hgo.out, addGo_step hx2 hx3, if_neg hin, hm9]
                  have hgt : Hid (∀ (i : Nat) (y : ByteArray), cs'[i]? = some y → sLt y d = decide (i < m) ∧ y ≠ d) := fun i y hy => by
                    refine ⟨?_, fun e => hin (e ▸ List.mem_of_getElem? hy)⟩
                    rcases Nat.lt_or_ge i m with h | h
                    · rw [lowB_lo (hm9 ▸ h) hy]
                      simp [h]
                    · rw [lowB_hi hri.out (hm9 ▸ h) hy]
                      simp; omega
                  replace hx2 := Lib.hid hx2
                  replace hx3 := Lib.hid hx3
                  replace hin := Lib.hid hin
                  replace hplp := Lib.hid hplp
                  replace hm9 := Lib.hid hm9
                  go_wp2_with fail
                  (refine wp_region_ext (wq.heap.size) (by kernel_rfl) (by kernel_rfl) ?_
                   repeat (go_big_quiet_step ((go_at_call 65; with_reducible refine Calls.ext (Nat.le_refl _) (hat.out _ (Ext.below _)))))
                   refine wpQuiet_nil ?_
                   intro w3 hw'
                   have hbw3 := Ext.of hw'
                   clear hw'
                   obtain ⟨hcw3, hfw3⟩ := bcell hbw3; (try simp only [World.size_drew, World.cell?_drew, World.frozen?_drew, World.heap_drewN, World.cell?_drewN, World.frozen?_drewN] at hcw3 hfw3); have hzw3 := hbw3.size; (try simp at hzw3); (try have hlw3 := (by omega : w.heap.size < w3.heap.size)); (try have hmw3 := (by omega : w.heap.size + 1 < w3.heap.size)); (try have hnw3 := (by omega : w.heap.size + 1 + 1 < w3.heap.size)))
                  have s3 := s.out.to (show Below wq.heap.size wq w3 by assumption)
                  clear hcw3 hfw3
                  have hb3w : Below wq.heap.size wq w3 := by assumption
                  have hcell : Hid (∀ W, Below w3.heap.size w3 W → W.cell? ⟨b9, 4, none⟩ = some (.slice A4 n4 c4) ∧ W.cell? ⟨b9, 5, none⟩ = some (.slice A5 n5 c5) ∧ W.cell? ⟨b2, o2 + q, none⟩ = some (.string d) ∧ W.cell? ⟨b3, o3 + q * 3, none⟩ = some (.string p.pack) ∧ W.cell? ⟨b3, o3 + q * 3 + 1, none⟩ = some (.int .i64 p.at_) ∧ W.cell? ⟨b3, o3 + q * 3 + 2, none⟩ = some (.int .i64 p.len)) := fun W hb => by
                    have hpp := (((hq.to fq).to hb3w).to hb).placeAt hx3.out
                    have hcc := (s3.bx.below hb).cells
                    exact ⟨hcc.2.2.2.2.1, hcc.2.2.2.2.2, (((hd.to fq).to hb3w).to hb).strAt hx2.out, hpp.1, hpp.2.1, hpp.2.2⟩
                  have hz3w := hb3w.size
                  have hl93 : b9 < w3.heap.size := s3.bx.lt
                  have r4 := s3.r4
                  have r5 := s3.r5
                  have hmn4 : m ≤ n4 := by have := hl4.out; have := hn4.out; omega
                  have hn44 : n4 ≤ 1400 := by have := hn4.out; omega
                  have hn45 : Hid (n4 = n5) := by have := hn4.out; have := hn5.out; unfold Hid; omega
                  have hlc : Hid (cs'.length = n4) := r4.1
                  have hlp : Hid (ps'.length = n4) := by unfold Hid; rw [r5.1]; exact hn45.out.symm
                  replace s3 := Lib.hid s3
                  clear x0 x1 x2 x3 x4 x5 y0 hb3w
                  go_wp2_with fail
                  go_loopw [11, 12, 13, 14] (fun v11 v12 v13 i wv => ∃ (kk : Nat) (dn : Bool), kk ≤ n4 ∧ i = .int .i64 kk ∧ v13 = .bool dn ∧ Hid (dn = decide (m < kk)) ∧ Hid (Two w3 wv w3.heap.size v11 v12 (part m d cs' kk) (part m p ps' kk))) (fun _ _ _ i _ => n4 - (intOf i).toNat)
                  case atStart => exact ⟨0, false, Nat.zero_le _, rfl, rfl, by simp [Hid], by unfold Hid; rw [part_zero, part_zero]; exact ⟨Owns.nil_, Owns.nil_, .inl rfl, (by repeat (first | exact Below.refl _ _ | assumption | refine Below.drew ?_ | refine below_drewN ?_ _ | refine Below.alloc ?_ (by first | omega | (simp; try omega)) _ | refine Below.setCell ?_ (by first | omega | (simp; try omega)) _ | (refine Below.trans ?_ (Below.mono (by assumption) (by first | omega | (simp; try omega))))))⟩⟩
                  case round =>
                    obtain ⟨kk, dn, hkk, rfl, rfl, hdn, hT⟩ := hrel
                    have hbT := hT.out.below
                    have hzT := hbT.size
                    obtain ⟨y4, y5, yd, yp0, yp1, yp2⟩ := hcell.out _ hbT
                    have hDl : (part m d cs' kk).length ≤ 2000 := by have := part_len (x := d) (l := cs') (m := m) (k := kk) (by rw [hlc.out]; omega) (by rw [hlc.out]; omega); omega
                    have hPl : (part m p ps' kk).length ≤ 2000 := by have := part_len (x := p) (l := ps') (m := m) (k := kk) (by rw [hlp.out]; omega) (by rw [hlp.out]; omega); omega
                    by_cases hk : kk < n4
                    · obtain ⟨b4, o4, y, rfl, hb4, hxy, yc⟩ := (r4.to hbT).str hk
                      obtain ⟨b5, o5, py, rfl, hb5, hxp, yq0, yq1, yq2⟩ := (r5.to hbT).place (i := kk) (by have := hn45.out; omega)
                      have hrow : Hid (∀ W, Below w3.heap.size w3 W → W.cell? ⟨b4, o4 + kk, none⟩ = some (.string y) ∧ W.cell? ⟨b5, o5 + kk * 3, none⟩ = some (.string py.pack) ∧ W.cell? ⟨b5, o5 + kk * 3 + 1, none⟩ = some (.int .i64 py.at_) ∧ W.cell? ⟨b5, o5 + kk * 3 + 2, none⟩ = some (.int .i64 py.len)) := fun W hb => by
                        have hpp := (r5.to hb).placeAt hxp
                        exact ⟨(r4.to hb).strAt hxy, hpp.1, hpp.2.1, hpp.2.2⟩
                      have hkn5 : (kk : Int) < (n5 : Int) := by have := hn45.out; omega
                      obtain ⟨hgy, hyd⟩ := hgt.out kk y hxy
                      have hq9 := str_ne hyd
                      replace hyd := Lib.hid hyd
                      rcases Nat.lt_trichotomy kk m with hkm | hkm | hkm
                      · have e1 : Hid (part m d cs' (kk + 1) = part m d cs' kk ++ [y]) := part_lt hkm hxy
                        have e2 : Hid (part m p ps' (kk + 1) = part m p ps' kk ++ [py]) := part_lt hkm hxp
                        obtain rfl : dn = false := by rw [hdn.out]; simp; omega
                        have hdn' : Hid (false = decide (m < kk + 1)) := by unfold Hid; simp; omega
                        have hcmp : Op.bytesLess y.toList d.toList = true := by
                          show sLt y d = true
                          rw [hgy]; simpa using hkm
                        replace hxy := Lib.hid hxy
                        replace hxp := Lib.hid hxp
                        replace hgy := Lib.hid hgy
                        have tok1 : True := trivial
                        go_wp2_with fail
                        go_quiet (fail)
                        go_wp2_with (first
                          | (at_builtin; have _t := tok1; go_must (refine Elem.wpList_one strE rfl (.tmp 102) (.tmp 108) rfl w3.heap.size _ (part m d cs' kk) rfl _ _ y rfl (by (repeat (first | with_reducible refine Two.alloc ?_ (by first | omega | (simp; try omega)) _ | with_reducible refine Two.drew ?_ | with_reducible refine Two.drewN ?_ _ | with_reducible refine Owns.alloc ?_ _ | with_reducible refine Owns.drew ?_ | with_reducible refine Owns.drewN ?_ _)); exact hT.out.o4) (fun j u hu => by rcases j with _ | j <;> simp [strE, strCell] at hu; subst hu; first | (go_simp; done) | exact newCell _ _ _ _ _) (by first | omega | (simp only [List.length_append, List.length_cons, List.length_nil]; omega)) (by first | omega | (simp; try omega)) ?_); intro va wa howz hgz hatz; have Ta : Two w3 wa w3.heap.size va u12 (part m d cs' kk ++ [y]) (part m p ps' kk) := (by refine Two.grow4 (D := part m d cs' kk) ?_ ?_ howz hgz hatz; exact (by (repeat (first | with_reducible refine Two.alloc ?_ (by first | omega | (simp; try omega)) _ | with_reducible refine Two.drew ?_ | with_reducible refine Two.drewN ?_ _ | with_reducible refine Owns.alloc ?_ _ | with_reducible refine Owns.drew ?_ | with_reducible refine Owns.drewN ?_ _)); exact hT.out); exact (by first | omega | (simp; try omega))); have hbwa := Ta.below; have hzwa := hbwa.size; clear y4 y5 yd yp0 yp1 yp2; obtain ⟨y4, y5, yd, yp0, yp1, yp2⟩ := hcell.out wa hbwa; clear yc yq0 yq1 yq2; obtain ⟨yc, yq0, yq1, yq2⟩ := hrow.out wa hbwa; clear howz hgz hatz; clear tok1 _t)
                          | (at_builtin; go_must (refine Elem.wpList_one placeE rfl (.tmp 110) (.tmp 116) rfl w3.heap.size _ (part m p ps' kk) rfl _ _ py rfl (by (repeat (first | with_reducible refine Two.alloc ?_ (by first | omega | (simp; try omega)) _ | with_reducible refine Two.drew ?_ | with_reducible refine Two.drewN ?_ _ | with_reducible refine Owns.alloc ?_ _ | with_reducible refine Owns.drew ?_ | with_reducible refine Owns.drewN ?_ _)); exact Ta.o5) (fun j u hu => by rcases j with _ | _ | _ | j <;> simp [placeE, Place.cells] at hu <;> subst hu <;> first | (go_simp; done) | exact newCell _ _ _ _ _) (by first | omega | (simp only [List.length_append, List.length_cons, List.length_nil]; omega)) (by first | omega | (simp; try omega)) ?_); intro vb wb howz hgz hatz; have Tb : Two w3 wb w3.heap.size va vb (part m d cs' kk ++ [y]) (part m p ps' kk ++ [py]) := (by refine Two.grow5 (P := part m p ps' kk) ?_ ?_ howz hgz hatz; exact (by (repeat (first | with_reducible refine Two.alloc ?_ (by first | omega | (simp; try omega)) _ | with_reducible refine Two.drew ?_ | with_reducible refine Two.drewN ?_ _ | with_reducible refine Owns.alloc ?_ _ | with_reducible refine Owns.drew ?_ | with_reducible refine Owns.drewN ?_ _)); exact Ta); exact (by first | omega | (simp; try omega))); have hbwb := Tb.below; have hzwb := hbwb.size; clear y4 y5 yd yp0 yp1 yp2; obtain ⟨y4, y5, yd, yp0, yp1, yp2⟩ := hcell.out wb hbwb; clear yc yq0 yq1 yq2; obtain ⟨yc, yq0, yq1, yq2⟩ := hrow.out wb hbwb; clear howz hgz hatz))
                        go_roundw
                        case rel => exact ⟨kk + 1, false, by omega, by go_num, rfl, hdn', by rw [e1.out, e2.out]; exact Lib.hid (by (repeat (first | with_reducible refine Two.alloc ?_ (by first | omega | (simp; try omega)) _ | with_reducible refine Two.drew ?_ | with_reducible refine Two.drewN ?_ _ | with_reducible refine Owns.alloc ?_ _ | with_reducible refine Owns.drew ?_ | with_reducible refine Owns.drewN ?_ _)); exact Tb)⟩
                        case measure => simp [intOf]; omega
                      · subst hkm
                        have e1 : Hid (part kk d cs' (kk + 1) = part kk d cs' kk ++ [d] ++ [y]) := part_eq hxy
                        have e2 : Hid (part kk p ps' (kk + 1) = part kk p ps' kk ++ [p] ++ [py]) := part_eq hxp
                        obtain rfl : dn = false := by rw [hdn.out]; simp
                        have hdn' : Hid (true = decide (kk < kk + 1)) := by unfold Hid; simp
                        have hcmp : Op.bytesLess y.toList d.toList = false := by
                          show sLt y d = false
                          rw [hgy]; simp
                        replace hxy := Lib.hid hxy
                        replace hxp := Lib.hid hxp
                        replace hgy := Lib.hid hgy
                        have tok1 : True := trivial
                        have tok2 : True := trivial
                        have tok3 : True := trivial
                        go_wp2_with fail
                        go_quiet (fail)
                        go_wp2_with (first
                          | (at_builtin; have _t := tok1; go_must (refine Elem.wpList_one strE rfl (.tmp 88) (.tmp 93) rfl w3.heap.size _ (part kk d cs' kk) rfl _ _ d rfl (by (repeat (first | with_reducible refine Two.alloc ?_ (by first | omega | (simp; try omega)) _ | with_reducible refine Two.drew ?_ | with_reducible refine Two.drewN ?_ _ | with_reducible refine Owns.alloc ?_ _ | with_reducible refine Owns.drew ?_ | with_reducible refine Owns.drewN ?_ _)); exact hT.out.o4) (fun j u hu => by rcases j with _ | j <;> simp [strE, strCell] at hu; subst hu; first | (go_simp; done) | exact newCell _ _ _ _ _) (by first | omega | (simp only [List.length_append, List.length_cons, List.length_nil]; omega)) (by first | omega | (simp; try omega)) ?_); intro va wa howz hgz hatz; have Ta : Two w3 wa w3.heap.size va u12 (part kk d cs' kk ++ [d]) (part kk p ps' kk) := (by refine Two.grow4 (D := part kk d cs' kk) ?_ ?_ howz hgz hatz; exact (by (repeat (first | with_reducible refine Two.alloc ?_ (by first | omega | (simp; try omega)) _ | with_reducible refine Two.drew ?_ | with_reducible refine Two.drewN ?_ _ | with_reducible refine Owns.alloc ?_ _ | with_reducible refine Owns.drew ?_ | with_reducible refine Owns.drewN ?_ _)); exact hT.out); exact (by first | omega | (simp; try omega))); have hbwa := Ta.below; have hzwa := hbwa.size; clear y4 y5 yd yp0 yp1 yp2; obtain ⟨y4, y5, yd, yp0, yp1, yp2⟩ := hcell.out wa hbwa; clear yc yq0 yq1 yq2; obtain ⟨yc, yq0, yq1, yq2⟩ := hrow.out wa hbwa; clear howz hgz hatz; clear tok1 _t)
                          | (at_builtin; have _t := tok2; go_must (refine Elem.wpList_one placeE rfl (.tmp 95) (.tmp 100) rfl w3.heap.size _ (part kk p ps' kk) rfl _ _ p rfl (by (repeat (first | with_reducible refine Two.alloc ?_ (by first | omega | (simp; try omega)) _ | with_reducible refine Two.drew ?_ | with_reducible refine Two.drewN ?_ _ | with_reducible refine Owns.alloc ?_ _ | with_reducible refine Owns.drew ?_ | with_reducible refine Owns.drewN ?_ _)); exact Ta.o5) (fun j u hu => by rcases j with _ | _ | _ | j <;> simp [placeE, Place.cells] at hu <;> subst hu <;> first | (go_simp; done) | exact newCell _ _ _ _ _) (by first | omega | (simp only [List.length_append, List.length_cons, List.length_nil]; omega)) (by first | omega | (simp; try omega)) ?_); intro vb wb howz hgz hatz; have Tb : Two w3 wb w3.heap.size va vb (part kk d cs' kk ++ [d]) (part kk p ps' kk ++ [p]) := (by refine Two.grow5 (P := part kk p ps' kk) ?_ ?_ howz hgz hatz; exact (by (repeat (first | with_reducible refine Two.alloc ?_ (by first | omega | (simp; try omega)) _ | with_reducible refine Two.drew ?_ | with_reducible refine Two.drewN ?_ _ | with_reducible refine Owns.alloc ?_ _ | with_reducible refine Owns.drew ?_ | with_reducible refine Owns.drewN ?_ _)); exact Ta); exact (by first | omega | (simp; try omega))); have hbwb := Tb.below; have hzwb := hbwb.size; clear y4 y5 yd yp0 yp1 yp2; obtain ⟨y4, y5, yd, yp0, yp1, yp2⟩ := hcell.out wb hbwb; clear yc yq0 yq1 yq2; obtain ⟨yc, yq0, yq1, yq2⟩ := hrow.out wb hbwb; clear howz hgz hatz; clear tok2 _t)
                          | (at_builtin; have _t := tok3; go_must (refine Elem.wpList_one strE rfl (.tmp 102) (.tmp 108) rfl w3.heap.size _ (part kk d cs' kk ++ [d]) rfl _ _ y rfl (by (repeat (first | with_reducible refine Two.alloc ?_ (by first | omega | (simp; try omega)) _ | with_reducible refine Two.drew ?_ | with_reducible refine Two.drewN ?_ _ | with_reducible refine Owns.alloc ?_ _ | with_reducible refine Owns.drew ?_ | with_reducible refine Owns.drewN ?_ _)); exact Tb.o4) (fun j u hu => by rcases j with _ | j <;> simp [strE, strCell] at hu; subst hu; first | (go_simp; done) | exact newCell _ _ _ _ _) (by first | omega | (simp only [List.length_append, List.length_cons, List.length_nil]; omega)) (by first | omega | (simp; try omega)) ?_); intro vc wc howz hgz hatz; have Tc : Two w3 wc w3.heap.size vc vb (part kk d cs' kk ++ [d] ++ [y]) (part kk p ps' kk ++ [p]) := (by refine Two.grow4 (D := part kk d cs' kk ++ [d]) ?_ ?_ howz hgz hatz; exact (by (repeat (first | with_reducible refine Two.alloc ?_ (by first | omega | (simp; try omega)) _ | with_reducible refine Two.drew ?_ | with_reducible refine Two.drewN ?_ _ | with_reducible refine Owns.alloc ?_ _ | with_reducible refine Owns.drew ?_ | with_reducible refine Owns.drewN ?_ _)); exact Tb); exact (by first | omega | (simp; try omega))); have hbwc := Tc.below; have hzwc := hbwc.size; clear y4 y5 yd yp0 yp1 yp2; obtain ⟨y4, y5, yd, yp0, yp1, yp2⟩ := hcell.out wc hbwc; clear yc yq0 yq1 yq2; obtain ⟨yc, yq0, yq1, yq2⟩ := hrow.out wc hbwc; clear howz hgz hatz; clear tok3 _t)
                          | (at_builtin; go_must (refine Elem.wpList_one placeE rfl (.tmp 110) (.tmp 116) rfl w3.heap.size _ (part kk p ps' kk ++ [p]) rfl _ _ py rfl (by (repeat (first | with_reducible refine Two.alloc ?_ (by first | omega | (simp; try omega)) _ | with_reducible refine Two.drew ?_ | with_reducible refine Two.drewN ?_ _ | with_reducible refine Owns.alloc ?_ _ | with_reducible refine Owns.drew ?_ | with_reducible refine Owns.drewN ?_ _)); exact Tc.o5) (fun j u hu => by rcases j with _ | _ | _ | j <;> simp [placeE, Place.cells] at hu <;> subst hu <;> first | (go_simp; done) | exact newCell _ _ _ _ _) (by first | omega | (simp only [List.length_append, List.length_cons, List.length_nil]; omega)) (by first | omega | (simp; try omega)) ?_); intro vd wd howz hgz hatz; have Td : Two w3 wd w3.heap.size vc vd (part kk d cs' kk ++ [d] ++ [y]) (part kk p ps' kk ++ [p] ++ [py]) := (by refine Two.grow5 (P := part kk p ps' kk ++ [p]) ?_ ?_ howz hgz hatz; exact (by (repeat (first | with_reducible refine Two.alloc ?_ (by first | omega | (simp; try omega)) _ | with_reducible refine Two.drew ?_ | with_reducible refine Two.drewN ?_ _ | with_reducible refine Owns.alloc ?_ _ | with_reducible refine Owns.drew ?_ | with_reducible refine Owns.drewN ?_ _)); exact Tc); exact (by first | omega | (simp; try omega))); have hbwd := Td.below; have hzwd := hbwd.size; clear y4 y5 yd yp0 yp1 yp2; obtain ⟨y4, y5, yd, yp0, yp1, yp2⟩ := hcell.out wd hbwd; clear yc yq0 yq1 yq2; obtain ⟨yc, yq0, yq1, yq2⟩ := hrow.out wd hbwd; clear howz hgz hatz))
                        go_roundw
                        case rel => exact ⟨kk + 1, true, by omega, by go_num, rfl, hdn', by rw [e1.out, e2.out]; exact Lib.hid (by (repeat (first | with_reducible refine Two.alloc ?_ (by first | omega | (simp; try omega)) _ | with_reducible refine Two.drew ?_ | with_reducible refine Two.drewN ?_ _ | with_reducible refine Owns.alloc ?_ _ | with_reducible refine Owns.drew ?_ | with_reducible refine Owns.drewN ?_ _)); exact Td)⟩
                        case measure => simp [intOf]; omega
                      · have e1 : Hid (part m d cs' (kk + 1) = part m d cs' kk ++ [y]) := part_gt hkm hxy
                        have e2 : Hid (part m p ps' (kk + 1) = part m p ps' kk ++ [py]) := part_gt hkm hxp
                        obtain rfl : dn = true := by rw [hdn.out]; simp; omega
                        have hdn' : Hid (true = decide (m < kk + 1)) := by unfold Hid; simp; omega
                        replace hxy := Lib.hid hxy
                        replace hxp := Lib.hid hxp
                        replace hgy := Lib.hid hgy
                        have tok1 : True := trivial
                        go_wp2_with fail
                        go_quiet (fail)
                        go_wp2_with (first
                          | (at_builtin; have _t := tok1; go_must (refine Elem.wpList_one strE rfl (.tmp 102) (.tmp 108) rfl w3.heap.size _ (part m d cs' kk) rfl _ _ y rfl (by (repeat (first | with_reducible refine Two.alloc ?_ (by first | omega | (simp; try omega)) _ | with_reducible refine Two.drew ?_ | with_reducible refine Two.drewN ?_ _ | with_reducible refine Owns.alloc ?_ _ | with_reducible refine Owns.drew ?_ | with_reducible refine Owns.drewN ?_ _)); exact hT.out.o4) (fun j u hu => by rcases j with _ | j <;> simp [strE, strCell] at hu; subst hu; first | (go_simp; done) | exact newCell _ _ _ _ _) (by first | omega | (simp only [List.length_append, List.length_cons, List.length_nil]; omega)) (by first | omega | (simp; try omega)) ?_); intro va wa howz hgz hatz; have Ta : Two w3 wa w3.heap.size va u12 (part m d cs' kk ++ [y]) (part m p ps' kk) := (by refine Two.grow4 (D := part m d cs' kk) ?_ ?_ howz hgz hatz; exact (by (repeat (first | with_reducible refine Two.alloc ?_ (by first | omega | (simp; try omega)) _ | with_reducible refine Two.drew ?_ | with_reducible refine Two.drewN ?_ _ | with_reducible refine Owns.alloc ?_ _ | with_reducible refine Owns.drew ?_ | with_reducible refine Owns.drewN ?_ _)); exact hT.out); exact (by first | omega | (simp; try omega))); have hbwa := Ta.below; have hzwa := hbwa.size; clear y4 y5 yd yp0 yp1 yp2; obtain ⟨y4, y5, yd, yp0, yp1, yp2⟩ := hcell.out wa hbwa; clear yc yq0 yq1 yq2; obtain ⟨yc, yq0, yq1, yq2⟩ := hrow.out wa hbwa; clear howz hgz hatz; clear tok1 _t)
                          | (at_builtin; go_must (refine Elem.wpList_one placeE rfl (.tmp 110) (.tmp 116) rfl w3.heap.size _ (part m p ps' kk) rfl _ _ py rfl (by (repeat (first | with_reducible refine Two.alloc ?_ (by first | omega | (simp; try omega)) _ | with_reducible refine Two.drew ?_ | with_reducible refine Two.drewN ?_ _ | with_reducible refine Owns.alloc ?_ _ | with_reducible refine Owns.drew ?_ | with_reducible refine Owns.drewN ?_ _)); exact Ta.o5) (fun j u hu => by rcases j with _ | _ | _ | j <;> simp [placeE, Place.cells] at hu <;> subst hu <;> first | (go_simp; done) | exact newCell _ _ _ _ _) (by first | omega | (simp only [List.length_append, List.length_cons, List.length_nil]; omega)) (by first | omega | (simp; try omega)) ?_); intro vb wb howz hgz hatz; have Tb : Two w3 wb w3.heap.size va vb (part m d cs' kk ++ [y]) (part m p ps' kk ++ [py]) := (by refine Two.grow5 (P := part m p ps' kk) ?_ ?_ howz hgz hatz; exact (by (repeat (first | with_reducible refine Two.alloc ?_ (by first | omega | (simp; try omega)) _ | with_reducible refine Two.drew ?_ | with_reducible refine Two.drewN ?_ _ | with_reducible refine Owns.alloc ?_ _ | with_reducible refine Owns.drew ?_ | with_reducible refine Owns.drewN ?_ _)); exact Ta); exact (by first | omega | (simp; try omega))); have hbwb := Tb.below; have hzwb := hbwb.size; clear y4 y5 yd yp0 yp1 yp2; obtain ⟨y4, y5, yd, yp0, yp1, yp2⟩ := hcell.out wb hbwb; clear yc yq0 yq1 yq2; obtain ⟨yc, yq0, yq1, yq2⟩ := hrow.out wb hbwb; clear howz hgz hatz))
                        go_roundw
                        case rel => exact ⟨kk + 1, true, by omega, by go_num, rfl, hdn', by rw [e1.out, e2.out]; exact Lib.hid (by (repeat (first | with_reducible refine Two.alloc ?_ (by first | omega | (simp; try omega)) _ | with_reducible refine Two.drew ?_ | with_reducible refine Two.drewN ?_ _ | with_reducible refine Owns.alloc ?_ _ | with_reducible refine Owns.drew ?_ | with_reducible refine Owns.drewN ?_ _)); exact Tb)⟩
                        case measure => simp [intOf]; omega
                    · obtain rfl : kk = n4 := by omega
                      have sW := s3.out.to hbT
                      by_cases hmk : m < kk
                      · obtain rfl : dn = true := by rw [hdn.out]; simpa using hmk
                        have hTf : Two w3 wr w3.heap.size u11 u12 (insAt m d cs') (insAt m p ps') := by
                          have h1 := part_full (x := d) (l := cs') (m := m) (by rw [hlc.out]; exact hmk)
                          have h2 := part_full (x := p) (l := ps') (m := m) (by rw [hlp.out]; exact hmk)
                          rw [hlc.out] at h1
                          rw [hlp.out] at h2
                          rw [← h1, ← h2]
                          exact hT.out
                        obtain ⟨A4n, c4n, rfl⟩ := hTf.o4.form
                        obtain ⟨A5n, c5n, rfl⟩ := hTf.o5.form
                        have hput := Lib.hid (sW.put hTf hl93)
                        have yf4 := sW.bx.frozen 4
                        have yf5 := sW.bx.frozen 5
                        replace hTf := Lib.hid hTf
                        replace sW := Lib.hid sW
                        replace hdn := Lib.hid hdn
                        go_wp2_with fail
                        go_roundw
                        case rel => exact ⟨q + 1, insAt m d cs', insAt m p ps', _, _, _, _, _, _, by omega, by go_num, hl4', hl5', hri', hpl', hgo', hput.out.weak (fun _ => trivial)⟩
                        case measure => simp [intOf]; omega
                      · obtain rfl : m = kk := by omega
                        obtain rfl : dn = false := by rw [hdn.out]; simp
                        have e1 : Hid (part m d cs' m ++ [d] = insAt m d cs') := by have h := part_last (x := d) (l := cs'); rw [hlc.out] at h; exact h
                        have e2 : Hid (part m p ps' m ++ [p] = insAt m p ps') := by have h := part_last (x := p) (l := ps'); rw [hlp.out] at h; exact h
                        have tok1 : True := trivial
                        go_wp2_with (first
                          | (at_builtin; have _t := tok1; go_must (refine Elem.wpList_one strE rfl (.tmp 120) (.tmp 125) rfl w3.heap.size _ (part m d cs' m) rfl _ _ d rfl (by (repeat (first | with_reducible refine Two.alloc ?_ (by first | omega | (simp; try omega)) _ | with_reducible refine Two.drew ?_ | with_reducible refine Two.drewN ?_ _ | with_reducible refine Owns.alloc ?_ _ | with_reducible refine Owns.drew ?_ | with_reducible refine Owns.drewN ?_ _)); exact hT.out.o4) (fun j u hu => by rcases j with _ | j <;> simp [strE, strCell] at hu; subst hu; first | (go_simp; done) | exact newCell _ _ _ _ _) (by first | omega | (simp only [List.length_append, List.length_cons, List.length_nil]; omega)) (by first | omega | (simp; try omega)) ?_); intro va wa howz hgz hatz; rw [e1.out] at howz; have Ta : Two w3 wa w3.heap.size va u12 (insAt m d cs') (part m p ps' m) := (by refine Two.grow4 (D := part m d cs' m) ?_ ?_ howz hgz hatz; exact (by (repeat (first | with_reducible refine Two.alloc ?_ (by first | omega | (simp; try omega)) _ | with_reducible refine Two.drew ?_ | with_reducible refine Two.drewN ?_ _ | with_reducible refine Owns.alloc ?_ _ | with_reducible refine Owns.drew ?_ | with_reducible refine Owns.drewN ?_ _)); exact hT.out); exact (by first | omega | (simp; try omega))); obtain ⟨A4n, c4n, rfl⟩ := Ta.o4.form; have hbwa := Ta.below; have hzwa := hbwa.size; clear y4 y5 yd yp0 yp1 yp2; obtain ⟨y4, y5, yd, yp0, yp1, yp2⟩ := hcell.out wa hbwa; clear howz hgz hatz; clear tok1 _t)
                          | (at_builtin; go_must (refine Elem.wpList_one placeE rfl (.tmp 127) (.tmp 132) rfl w3.heap.size _ (part m p ps' m) rfl _ _ p rfl (by (repeat (first | with_reducible refine Two.alloc ?_ (by first | omega | (simp; try omega)) _ | with_reducible refine Two.drew ?_ | with_reducible refine Two.drewN ?_ _ | with_reducible refine Owns.alloc ?_ _ | with_reducible refine Owns.drew ?_ | with_reducible refine Owns.drewN ?_ _)); exact Ta.o5) (fun j u hu => by rcases j with _ | _ | _ | j <;> simp [placeE, Place.cells] at hu <;> subst hu <;> first | (go_simp; done) | exact newCell _ _ _ _ _) (by first | omega | (simp only [List.length_append, List.length_cons, List.length_nil]; omega)) (by first | omega | (simp; try omega)) ?_); intro vb wb howz hgz hatz; rw [e2.out] at howz; have Tb : Two w3 wb w3.heap.size (.slice A4n (insAt m d cs').length c4n) vb (insAt m d cs') (insAt m p ps') := (by refine Two.grow5 (P := part m p ps' m) ?_ ?_ howz hgz hatz; exact (by (repeat (first | with_reducible refine Two.alloc ?_ (by first | omega | (simp; try omega)) _ | with_reducible refine Two.drew ?_ | with_reducible refine Two.drewN ?_ _ | with_reducible refine Owns.alloc ?_ _ | with_reducible refine Owns.drew ?_ | with_reducible refine Owns.drewN ?_ _)); exact Ta); exact (by first | omega | (simp; try omega))); obtain ⟨A5n, c5n, rfl⟩ := Tb.o5.form; have hbwb := Tb.below; have sW := s3.out.to hbwb; have yf4 := sW.bx.frozen 4; have yf5 := sW.bx.frozen 5; have hput := Lib.hid (sW.put Tb hl93); replace sW := Lib.hid sW; replace Tb := Lib.hid Tb; have hzwb := hbwb.size; clear y4 y5 yd yp0 yp1 yp2; obtain ⟨y4, y5, yd, yp0, yp1, yp2⟩ := hcell.out wb hbwb; clear howz hgz hatz))
                        go_roundw
                        case rel => exact ⟨q + 1, insAt m d cs', insAt m p ps', _, _, _, _, _, _, by omega, by go_num, hl4', hl5', hri', hpl', hgo', hput.out.weak (fun _ => trivial)⟩
                        case measure => simp [intOf]; omega
              · obtain rfl : q = j := by omega
                have hfin : addGo ds qs cs ps = some (cs', ps') := by rw [hgo.out, addGo_end ld.out]
                have hn0' : 0 < ds.length := by rw [ld.out]; exact Nat.pos_of_ne_zero hn0.out
                have hbx9 := hl9
                by_cases hmany : 400 < n4
                · have hres : Hid (addIdx ⟨k, nn, next, sn, cs, ps⟩ ds qs = (stNone, 40)) := addIdx_many hm.out (by rw [ld.out, lq.out]) hn0' hnew.out hfin (by rw [s.r4.1]; exact hmany)
                  have hg1 : decide ((400 : Int) < (n4 : Int)) = true := by simp; omega
                  (obtain ⟨g0, g1, g2, g3, g4, g5⟩ := (s.bz).cells
                   have e0 := (s.bz).frozen 0
                   have e1 := (s.bz).frozen 1
                   have e2 := (s.bz).frozen 2
                   have e3 := (s.bz).frozen 3
                   have e4 := (s.bz).frozen 4
                   have e5 := (s.bz).frozen 5)
                  replace s := Lib.hid s
                  replace hfin := Lib.hid hfin
                  replace hmany := Lib.hid hmany
                  replace hn0' := Lib.hid hn0'
                  go_wp2_with fail
                  (obtain ⟨t0, t1, t2, t3, t4, t5⟩ := (BoxAt.st6 (s.out.bz) 0 0 0 (.slice none 0 0) (.slice none 0 0) (.slice none 0 0)).cells
                   clear g0 g1 g2 g3 g4 g5
                   exact bodyPost_ret (v := .tuple #[.agg #[.int .i64 0, .int .i64 0, .int .i64 0, .slice none 0 0, .slice none 0 0, .slice none 0 0], .int .i64 40]) (by simp [results, Try.results41, go_sem, t0, t1, t2, t3, t4, t5]) rfl
                     ⟨⟨none, 0, 0, none, 0, 0, none, 0, 0⟩, by rw [hres.out]; rfl, by rw [hres.out]; exact addOut_none (below_st6 (s.out.below) (by omega) _ _ _ _ _ _)⟩)
                · have hg1 : decide ((400 : Int) < (n4 : Int)) = false := by simp; omega
                  have hap := Lib.hid (ref17_common A5 n5 c5 ps' wq s.r5 (by have := hn5.out; omega) hpl.out)
                  have hmany9 : ¬ 400 < cs'.length := by rw [s.r4.1]; exact hmany
                  replace hmany9 := Lib.hid hmany9
                  replace s := Lib.hid s
                  replace hn0' := Lib.hid hn0'
                  go_wp2_with fail
                  refine hap.out.mono ?_
                  cases hapart : apartB ps'
                  · rintro e w3 ⟨rfl, hb3⟩
                    have hres : Hid (addIdx ⟨k, nn, next, sn, cs, ps⟩ ds qs = (stNone, 1)) := addIdx_apart hm.out (by rw [ld.out, lq.out]) hn0'.out hnew.out hfin hmany9.out hapart
                    have s3 := s.out.to hb3
                    have hl3 : w.heap.size + 1 < w3.heap.size := s3.bz.lt
                    clear x0 x1 x2 x3 x4 x5
                    (obtain ⟨g0, g1, g2, g3, g4, g5⟩ := (s3.bz).cells
                     have e0 := (s3.bz).frozen 0
                     have e1 := (s3.bz).frozen 1
                     have e2 := (s3.bz).frozen 2
                     have e3 := (s3.bz).frozen 3
                     have e4 := (s3.bz).frozen 4
                     have e5 := (s3.bz).frozen 5)
                    replace s3 := Lib.hid s3
                    replace hfin := Lib.hid hfin
                    replace hmany := Lib.hid hmany
                    replace hap := Lib.hid hap
                    replace hapart := Lib.hid hapart
                    go_wp2_with fail
                    (obtain ⟨t0, t1, t2, t3, t4, t5⟩ := (BoxAt.st6 (s3.out.bz) 0 0 0 (.slice none 0 0) (.slice none 0 0) (.slice none 0 0)).cells
                     clear g0 g1 g2 g3 g4 g5
                     exact bodyPost_ret (v := .tuple #[.agg #[.int .i64 0, .int .i64 0, .int .i64 0, .slice none 0 0, .slice none 0 0, .slice none 0 0], .int .i64 1]) (by simp [results, Try.results41, go_sem, t0, t1, t2, t3, t4, t5]) rfl
                       ⟨⟨none, 0, 0, none, 0, 0, none, 0, 0⟩, by rw [hres.out]; rfl, by rw [hres.out]; exact addOut_none (below_st6 (s3.out.below) (by omega) _ _ _ _ _ _)⟩)
                  · rintro e w3 ⟨rfl, hb3⟩
                    have hres : Hid (addIdx ⟨k, nn, next, sn, cs, ps⟩ ds qs = (⟨k, nn, next, sn, cs', ps'⟩, 0)) := addIdx_ok hm.out (by rw [ld.out, lq.out]) hn0'.out hnew.out hfin hmany9.out hapart
                    have s3 := s.out.to hb3
                    have hl3 : w.heap.size + 1 < w3.heap.size := s3.bz.lt
                    clear x0 x1 x2 x3 x4 x5
                    obtain ⟨x0, x1, x2, x3, x4, x5⟩ := s3.bx.cells
                    (obtain ⟨g0, g1, g2, g3, g4, g5⟩ := (s3.bz).cells
                     have e0 := (s3.bz).frozen 0
                     have e1 := (s3.bz).frozen 1
                     have e2 := (s3.bz).frozen 2
                     have e3 := (s3.bz).frozen 3
                     have e4 := (s3.bz).frozen 4
                     have e5 := (s3.bz).frozen 5)
                    have hfb := below_st6 s3.below (b := w.heap.size + 1) (by omega) k nn next (.slice A1 n1 c1) (.slice A4 n4 c4) (.slice A5 n5 c5)
                    have how := s3.own (Nat.pos_of_ne_zero hn0.out)
                    have ho4 := how.1.st6 (b := w.heap.size + 1) (by omega) k nn next (.slice A1 n1 c1) (.slice A4 n4 c4) (.slice A5 n5 c5)
                    have ho5 := how.2.st6 (b := w.heap.size + 1) (by omega) k nn next (.slice A1 n1 c1) (.slice A4 n4 c4) (.slice A5 n5 c5)
                    have hout : Hid (AddOut w (st6 w3 (w.heap.size + 1) k nn next (.slice A1 n1 c1) (.slice A4 n4 c4) (.slice A5 n5 c5)) ⟨A1, n1, c1, A4, n4, c4, A5, n5, c5⟩ ⟨k, nn, next, sn, cs', ps'⟩) :=
                      ⟨⟨h1.to hfb, ho4.row strCell_len, ho5.row Place.cells_len, fun p hp => placeOk_of (hpl.out p hp)⟩, ho4.from (by omega), ho5.from (by omega), hfb⟩
                    have bz9 := Lib.hid (s3.bz.st6 k nn next (.slice A1 n1 c1) (.slice A4 n4 c4) (.slice A5 n5 c5))
                    replace s3 := Lib.hid s3
                    replace hfin := Lib.hid hfin
                    replace hmany := Lib.hid hmany
                    replace hap := Lib.hid hap
                    replace hapart := Lib.hid hapart
                    clear hfb ho4 ho5 how
                    go_wp2_with fail
                    clear g0 g1 g2 g3 g4 g5 x0 x1 x2 x3 x4 x5
                    obtain ⟨t0, t1, t2, t3, t4, t5⟩ := bz9.out.cells
                    exact bodyPost_ret (v := .tuple #[.agg #[.int .i64 k, .int .i64 nn, .int .i64 next, .slice A1 n1 c1, .slice A4 n4 c4, .slice A5 n5 c5], .int .i64 0]) (by simp [results, Try.results41, go_sem, t0, t1, t2, t3, t4, t5]) rfl ⟨⟨A1, n1, c1, A4, n4, c4, A5, n5, c5⟩, by rw [hres.out], by rw [hres.out]; exact hout.out⟩
    · have hb : ((n : Int) != (n' : Int)) = true := by simp; omega
      have hres : Hid (addIdx ⟨k, nn, next, sn, cs, ps⟩ ds qs = (stNone, 1)) := addIdx_arg hm (fun h => by have := ld.out; have := lq.out; omega)
      (obtain ⟨g0, g1, g2, g3, g4, g5⟩ := (bz1.out).cells
       have e0 := (bz1.out).frozen 0
       have e1 := (bz1.out).frozen 1
       have e2 := (bz1.out).frozen 2
       have e3 := (bz1.out).frozen 3
       have e4 := (bz1.out).frozen 4
       have e5 := (bz1.out).frozen 5)
      replace hnn := Lib.hid hnn
      go_wp2_with fail
      (obtain ⟨t0, t1, t2, t3, t4, t5⟩ := (BoxAt.st6 (bz1.out) 0 0 0 (.slice none 0 0) (.slice none 0 0) (.slice none 0 0)).cells
       clear g0 g1 g2 g3 g4 g5
       exact bodyPost_ret (v := .tuple #[.agg #[.int .i64 0, .int .i64 0, .int .i64 0, .slice none 0 0, .slice none 0 0, .slice none 0 0], .int .i64 1]) (by simp [results, Try.results41, go_sem, t0, t1, t2, t3, t4, t5]) rfl
         ⟨⟨none, 0, 0, none, 0, 0, none, 0, 0⟩, by rw [hres.out]; rfl, by rw [hres.out]; exact addOut_none (below_st6 (f1) (by omega) _ _ _ _ _ _)⟩)
end Go.Proofs.Ythbmbbbojpdlaaa
